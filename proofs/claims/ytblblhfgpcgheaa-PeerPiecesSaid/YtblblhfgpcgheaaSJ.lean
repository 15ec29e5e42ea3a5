/- Asking, as a contract, and the loop that asks. No condition. -/
import Derived.Test.YtblblhfgpcgheaaRJ
namespace Go.Proofs.Ytblblhfgpcgheaa
open Go Go.AM
set_option maxRecDepth 100000
set_option maxHeartbeats 4000000
set_option linter.unusedVariables false
set_option linter.unusedSectionVars false
def rqV (kd ck of ln : Nat) (d : List Nat) : V :=
 if kd = 1 then (if d.length = ln then .tuple [.str (rqL kd ck of ln ++ d), .int .i64 0] else .tuple [.str [], .int .i64 1])
 else if d.length = 0 then .tuple [.str (rqL kd ck of ln ++ d), .int .i64 0] else .tuple [.str [], .int .i64 1]
open Classical in
noncomputable def rqR0 : List V → Option V
 | [.agg [.int .u16 f, .int .u16 kd, .int .u64 ck, .int .u64 of, .int .u32 ln, .str d]] => if f = 0 ∧ 0 ≤ kd ∧ kd < 65536 ∧ 0 ≤ ck ∧ ck < 18446744073709551616 ∧ 0 ≤ of ∧ of < 18446744073709551616 ∧ 0 ≤ ln ∧ ln < 4294967296 ∧ d.length ≤ 1000000 then some (rqV kd.toNat ck.toNat of.toNat ln.toNat d) else none
 | _ => none
theorem rqR_ex : ∃ R : List V → Option V, R = rqR0 := ⟨_, rfl⟩
noncomputable def rqR : List V → Option V := Classical.choose rqR_ex
theorem rqR_eq : rqR = rqR0 := Classical.choose_spec rqR_ex
theorem rqR_y {kd ck of ln : Nat} {d : List Nat} (h1 : kd < 65536) (h2 : ck < 18446744073709551616) (h3 : of < 18446744073709551616) (h4 : ln < 4294967296) (h5 : d.length ≤ 1000000) : rqR [.agg [.int .u16 0, .int .u16 ((kd : Nat) : Int), .int .u64 ((ck : Nat) : Int), .int .u64 ((of : Nat) : Int), .int .u32 ((ln : Nat) : Int), .str d]] = some (rqV kd ck of ln d) := by
 rw [rqR_eq]
 unfold rqR0
 dsimp only
 rw [if_pos ⟨rfl, by omega, by omega, by omega, by omega, by omega, by omega, by omega, by omega, h5⟩]
 simp only [Int.toNat_natCast]
theorem rqL_len (kd ck of ln : Nat) : (rqL kd ck of ln).length = 28 := rfl
section
variable {P : Program} (hmix : P.follows .mixedOrders = true)
include hmix
theorem tbQ_ok (o43 : FOk P 43 c43) (o59 : FOk P 59 c59) : TabOk P tbQ := by
 intro f af h
 simp only [tbQ] at h
 by_cases e : f = 43
 ·subst e; cases h; exact o43
 ·rw [nbeqF e, cond_false] at h
  by_cases e : f = 59
  ·subst e; cases h; exact o59
  ·rw [nbeqF e, cond_false] at h; cases h
theorem tbK_ok (o21 : FOk P 21 c21) (o25 : FOk P 25 c25) : TabOk P tbK := by
 intro f af h
 simp only [tbK] at h
 by_cases e : f = 21
 ·subst e; cases h; exact o21
 ·rw [nbeqF e, cond_false] at h
  by_cases e : f = 25
  ·subst e; cases h; exact o25
  ·rw [nbeqF e, cond_false] at h; cases h
theorem r26_ok (o43 : FOk P 43 c43) (o59 : FOk P 59 c59) (o : FOk P 26 c26) {la : CF Prop} (hla : LastOk P la id) : LastOk P (lastFn 26 rqR la) id := lastFn_ok (callable_fok o) (fun ρ args args' v hv ha => by
 rw [rqR_eq] at hv; unfold rqR0 at hv; split at hv
 ·split at hv
  ·rename_i f kd ck of ln d hh
   obtain ⟨rfl, h1, h2, h3, h4, h5, h6, h7, h8, h9⟩ := hh
   cases hv
   obtain ⟨kd, rfl⟩ := Int.eq_ofNat_of_zero_le h1
   obtain ⟨ck, rfl⟩ := Int.eq_ofNat_of_zero_le h3
   obtain ⟨of, rfl⟩ := Int.eq_ofNat_of_zero_le h5
   obtain ⟨ln, rfl⟩ := Int.eq_ofNat_of_zero_le h7
   have h2 : kd < 65536 := by omega
   have h4 : ck < 18446744073709551616 := by omega
   have h6 : of < 18446744073709551616 := by omega
   have h8 : ln < 4294967296 := by omega
   have hcf := callD_sound (A := pA) pHolds hmix (tbQ_ok hmix o43 o59) la0_ok 5
   have hp : (rqV (Int.ofNat kd).toNat (Int.ofNat ck).toNat (Int.ofNat of).toNat (Int.ofNat ln).toNat d).plain = true := by
    unfold rqV; split
    ·split <;> rfl
    ·split <;> rfl
   refine answers_of_walk hmix o hcf ha rfl hp (fun K hK => ?_)
   have hK : ∀ mm, K (rqV kd ck of ln d) mm := hK
   unfold rqV at hK
   by_cases hk : kd = 1
   ·rw [if_pos hk] at hK
    subst hk
    by_cases hd : d.length = ln
    ·rw [if_pos hd] at hK
     exact rq_1 _ ck of ln h4 h6 h8 d _ (addS (by show 28 + d.length ≤ _; omega)) hd K hK
    ·rw [if_neg hd] at hK
     exact rq_e _ 1 ck of ln (by decide) h4 h6 h8 d h9 rfl hd K hK
   ·rw [if_neg hk] at hK
    by_cases hd : d.length = 0
    ·rw [if_pos hd] at hK
     exact rq_0 _ kd ck of ln h2 h4 h6 h8 d h9 _ (addS (by show 28 + d.length ≤ _; omega)) hk hd K hK
    ·rw [if_neg hd] at hK
     exact rq_f _ kd ck of ln h2 h4 h6 h8 d h9 hk hd K hK
  ·cases hv
 ·cases hv) hla
end
structure AskS where
 (ou : List Nat) (q : Nat) (dt : Nat → List Nat) (fl : Fl)
def askGood (a : Act) : Prop := a.kd % 65536 ≠ 2 ∧ (a.kd % 65536 = 1 ∧ a.tx.length = a.ln ∨ a.kd % 65536 ≠ 1 ∧ a.tx.length = 0)
instance (a : Act) : Decidable (askGood a) := by unfold askGood; infer_instance
def askNew (a : Act) : Fly := ⟨a.kd % 65536, a.ln, a.of, [], 0⟩
def askStep (a : Act) (s : AskS) : AskS := if askGood a then ⟨s.ou ++ (rqL (a.kd % 65536) (s.q + 1) a.of a.ln ++ a.tx), s.q + 1, fun j => if j = s.q + 1 then a.tx else s.dt j, s.fl ++ [(s.q + 1, askNew a)]⟩ else s
abbrev cliS (st : Bool) (s : AskS) : Cli := ⟨[97], s.ou, st, s.q, s.dt⟩
structure AskOk (s : AskS) (i : Nat) : Prop where
 q : s.q ≤ i
 fl : FlS s.q s.fl
 len : s.fl.length = s.q
 ou : s.ou.length ≤ 100 + i * 30100
abbrev rqA (a : Act) : V := .agg [.int .u16 0, .int .u16 ((a.kd % 65536 : Nat) : Int), .int .u64 0, .int .u64 ((a.of : Nat) : Int), .int .u32 ((a.ln : Nat) : Int), .str a.tx]
abbrev p1 : Nat → Nat := fun j => 1 + j
abbrev d8 : List AObj := [.dead, .dead, .dead, .dead, .dead, .dead, .dead, .dead]
abbrev askPre (st : Bool) (s : AskS) : List AObj := [.cells (clV (cliS st s) false [] .nilslice) false, .map (enF p1 s.fl) s.q false, .dead, .dead, .dead, .dead, .dead, .dead, .dead, .dead]
abbrev askNo (st : Bool) (s : AskS) (a : Act) (e : Nat) : Con := ⟨[.ptr 0 0, rqA a], askPre st s, .tuple [.int .u64 ((0 : Nat) : Int), .int .i64 ((e : Nat) : Int)], askPre st s, []⟩
abbrev askYes (st : Bool) (s : AskS) (a : Act) : Con := ⟨[.ptr 0 0, rqA a], askPre st s, .tuple [.int .u64 ((s.q + 1 : Nat) : Int), .int .i64 ((0 : Nat) : Int)],
 [.cells (clV (cliS st (askStep a s)) false [] .nilslice) false, .map (enF p1 s.fl ++ [(.int .u64 ((s.q + 1 : Nat) : Int), .ptr 11 0, s.q)]) (s.q + 1) false, .dead, .dead, .dead, .dead, .dead, .dead, .dead, .dead], [(11, .cells (aoV (cliS st (askStep a s)) (s.q + 1) (askNew a)) false)]⟩
theorem askStep_ok {s : AskS} {i : Nat} (h : AskOk s i) {a : Act} (ha : ActOk a) (ht : a.tx.length ≤ 30000) : AskOk (askStep a s) (i + 1) := by
 unfold askStep
 have hq := h.q
 have ho := h.ou
 split
 ·refine ⟨by show s.q + 1 ≤ i + 1; omega, ⟨?_, fun x hx => ?_, fun x hx => ?_⟩, by show (s.fl ++ [_]).length = s.q + 1; rw [List.length_append, h.len]; rfl, ?_⟩
  ·rw [List.map_append]
   refine List.nodup_append.2 ⟨h.fl.nd, by simp, fun x hx y hy => ?_⟩
   obtain ⟨z, hz, rfl⟩ := List.mem_map.1 hx
   have h1 := (h.fl.key z hz).2
   have h2 : y = s.q + 1 := by simpa using hy
   omega
  ·rcases List.mem_append.1 hx with hx | hx
   ·have := h.fl.key x hx; exact ⟨this.1, Nat.le_succ_of_le this.2⟩
   ·rw [List.mem_singleton.1 hx]; exact ⟨by show 1 ≤ s.q + 1; omega, Nat.le_refl _⟩
  ·rcases List.mem_append.1 hx with hx | hx
   ·exact h.fl.fly x hx
   ·rw [List.mem_singleton.1 hx]
    exact ⟨Nat.mod_lt _ (by decide), ha.ln, ha.of, by show 0 < _; decide, Nat.zero_le _⟩
  ·show (s.ou ++ (rqL _ _ _ _ ++ a.tx)).length ≤ _
   rw [List.length_append, List.length_append, rqL_len]
   omega
 ·exact ⟨Nat.le_succ_of_le h.q, h.fl, h.len, by omega⟩
section
variable {P : Program} (hmix : P.follows .mixedOrders = true)
include hmix
theorem ask_con (o21 : FOk P 21 c21) (o25 : FOk P 25 c25) (h26 : LastOk P (lastFn 26 rqR la0) id) (o : FOk P 11 c11) {st : Bool} {s : AskS} {i : Nat} (h : AskOk s i) (hi : i < 8) {a : Act} (ha : ActOk a) (ht : a.tx.length ≤ 30000) :
  (askStep a s = s ∧ ∃ e, ConOk P 11 (askNo st s a e)) ∨ (askGood a ∧ ConOk P 11 (askYes st s a)) := by
 have hcf := callD_sound (A := pA) pHolds hmix (tbK_ok hmix o21 o25) h26 5
 have hkd : a.kd % 65536 < 65536 := Nat.mod_lt _ (by decide)
 have hq := h.q
 have hlen : (enF p1 s.fl).length < 8 := by rw [enF_len, h.len]; omega
 have hr := rqR_y (kd := a.kd % 65536) (ck := s.q + 1) (of := a.of) (ln := a.ln) (d := a.tx) hkd (by omega) ha.of ha.ln (by omega)
 unfold rqV at hr
 by_cases hg : askGood a
 ·refine .inr ⟨hg, ?_⟩
  have hr2 : rqR [.agg [.int .u16 0, .int .u16 ((a.kd % 65536 : Nat) : Int), .int .u64 ((s.q + 1 : Nat) : Int), .int .u64 ((a.of : Nat) : Int), .int .u32 ((a.ln : Nat) : Int), .str a.tx]] = some (.tuple [.str (rqL (a.kd % 65536) (s.q + 1) a.of a.ln ++ a.tx), .int .i64 0]) := by
   rcases hg.2 with ⟨h1, h2⟩ | ⟨h1, h2⟩
   ·rw [if_pos h1, if_pos h2] at hr; exact hr
   ·rw [if_neg h1, if_pos h2] at hr; exact hr
  have hf : findK (.one .int) (.int .u64 ((s.q + 1 : Nat) : Int)) (enF p1 s.fl) = some none := findE_none (getF_notin fun hm => by
   obtain ⟨z, hz, e⟩ := List.mem_map.1 hm
   have := (h.fl.key z hz).2
   omega)
  have := conOk_walk hmix o hcf (ak_o Ys.none rqR [97] s.ou st s.q (a.kd % 65536) a.of a.ln (by omega) hkd a.tx (enF p1 s.fl) hlen hg.1 _ hr2 (addS (by have := h.ou; rw [List.length_append, rqL_len]; omega)) hf)
  have e : askStep a s = ⟨s.ou ++ (rqL (a.kd % 65536) (s.q + 1) a.of a.ln ++ a.tx), s.q + 1, fun j => if j = s.q + 1 then a.tx else s.dt j, s.fl ++ [(s.q + 1, askNew a)]⟩ := if_pos hg
  show ConOk P 11 ⟨_, _, _, [.cells (clV (cliS st (askStep a s)) false [] .nilslice) false, _, _, _, _, _, _, _, _, _], [(11, .cells (aoV (cliS st (askStep a s)) (s.q + 1) (askNew a)) false)]⟩
  rw [e]
  have e2 : (fun j => if j = s.q + 1 then a.tx else s.dt j) (s.q + 1) = a.tx := if_pos rfl
  show ConOk P 11 ⟨_, _, _, _, [(11, .cells [_, _, _, _, _, .str ((fun j => if j = s.q + 1 then a.tx else s.dt j) (s.q + 1)), _, _] false)]⟩
  rw [e2]
  exact this
 ·refine .inl ⟨if_neg hg, ?_⟩
  by_cases h2 : a.kd % 65536 = 2
  ·exact ⟨10, conOk_walk hmix o hcf (ak_d Ys.none rqR [97] s.ou st s.q (a.kd % 65536) a.of a.ln (by omega) hkd a.tx (enF p1 s.fl) hlen h2)⟩
  ·refine ⟨1, conOk_walk hmix o hcf (ak_e Ys.none rqR [97] s.ou st s.q (a.kd % 65536) a.of a.ln (by omega) hkd a.tx (enF p1 s.fl) hlen h2 ?_)⟩
   by_cases h1 : a.kd % 65536 = 1
   ·rw [if_pos h1, if_neg fun h3 => hg ⟨h2, .inl ⟨h1, h3⟩⟩] at hr; exact hr
   ·rw [if_neg h1, if_neg fun h3 => hg ⟨h2, .inr ⟨h1, h3⟩⟩] at hr; exact hr
end
abbrev mk23 (oa ol op c1 f1 c2 f2 : AObj) (a d : Nat → AObj) : Mem := memL 23 [(0, oa), (1, ol), (2, op), (3, c1), (4, f1), (5, c2), (6, f2), (7, a 1), (8, a 2), (9, a 3), (10, a 4), (11, a 5), (12, a 6), (13, a 7), (14, a 8), (15, d 1), (16, d 2), (17, d 3), (18, d 4), (19, d 5), (20, d 6), (21, d 7), (22, d 8)]
abbrev mk24 (oa ol op c1 f1 c2 f2 : AObj) (a d : Nat → AObj) (r23 : AObj) : Mem := memL 24 [(0, oa), (1, ol), (2, op), (3, c1), (4, f1), (5, c2), (6, f2), (7, a 1), (8, a 2), (9, a 3), (10, a 4), (11, a 5), (12, a 6), (13, a 7), (14, a 8), (15, d 1), (16, d 2), (17, d 3), (18, d 4), (19, d 5), (20, d 6), (21, d 7), (22, d 8), (23, r23)]
abbrev mk25 (oa ol op c1 f1 c2 f2 : AObj) (a d : Nat → AObj) (r23 r24 : AObj) : Mem := memL 25 [(0, oa), (1, ol), (2, op), (3, c1), (4, f1), (5, c2), (6, f2), (7, a 1), (8, a 2), (9, a 3), (10, a 4), (11, a 5), (12, a 6), (13, a 7), (14, a 8), (15, d 1), (16, d 2), (17, d 3), (18, d 4), (19, d 5), (20, d 6), (21, d 7), (22, d 8), (23, r23), (24, r24)]
abbrev mk26 (oa ol op c1 f1 c2 f2 : AObj) (a d : Nat → AObj) (r23 r24 r25 : AObj) : Mem := memL 26 [(0, oa), (1, ol), (2, op), (3, c1), (4, f1), (5, c2), (6, f2), (7, a 1), (8, a 2), (9, a 3), (10, a 4), (11, a 5), (12, a 6), (13, a 7), (14, a 8), (15, d 1), (16, d 2), (17, d 3), (18, d 4), (19, d 5), (20, d 6), (21, d 7), (22, d 8), (23, r23), (24, r24), (25, r25)]
abbrev nm1 : List Nat := [3, 4, 7, 8, 9, 10, 11, 12, 13, 14]
abbrev nm2 : List Nat := [5, 6, 15, 16, 17, 18, 19, 20, 21, 22]
abbrev clM (W : Cli) (b : Nat) (ov : Bool) (inb : List Nat) (rv : V) : AObj := .cells [.str W.nm, .bool W.st, .bool true, .bool true, .bool true, .bool false, .bool ov, .int .u64 0, .str inb, .str W.ou, .map b, .int .u64 ((W.q : Nat) : Int), rv] false
theorem clV_ren2 {σ : Nat → Nat} (W : Cli) (ov : Bool) (s : List Nat) {rv rv' : V} {b : Nat} (h1 : σ 1 = b) (h : rv.ren σ = rv') : (AObj.cells (clV W ov s rv) false).ren σ = clM W b ov s rv' := by
 subst h; subst h1; rfl
theorem map_ren2 {σ p p' : Nat → Nat} {fl : Fl} {c : Nat} {ro : Bool} (h : ∀ x ∈ fl, σ (p x.1) = p' x.1) : (AObj.map (enF p fl) c ro).ren σ = .map (enF p' fl) c ro := by
 show AObj.map (erens σ (enF p fl)) c ro = _
 rw [enF_ren, enF_congr (p := fun j => σ (p j)) (p' := p') h]
theorem ebels_app (p : Nat → Bool) : ∀ (l t : List (V × V × Nat)), ebels p (l ++ t) = (ebels p l && ebels p t)
 | [], t => by simp only [List.nil_append, ebels, Bool.true_and]
 | (k, v, n) :: l, t => by simp only [List.cons_append, ebels, ebels_app p l t, Bool.and_assoc]
theorem erens_app (σ : Nat → Nat) : ∀ (l t : List (V × V × Nat)), erens σ (l ++ t) = erens σ l ++ erens σ t
 | [], t => rfl
 | (k, v, n) :: l, t => by simp only [List.cons_append, erens, erens_app σ l t]
abbrev pA6 : Nat → Nat := fun j => 6 + j
abbrev pA14 : Nat → Nat := fun j => 14 + j
theorem nm1_p {j : Nat} (h : 1 ≤ j ∧ j ≤ 8) : nthD nm1 (1 + j) = 6 + j := by rcases k8 h with rfl | rfl | rfl | rfl | rfl | rfl | rfl | rfl <;> rfl
theorem nm2_p {j : Nat} (h : 1 ≤ j ∧ j ≤ 8) : nthD nm2 (1 + j) = 14 + j := by rcases k8 h with rfl | rfl | rfl | rfl | rfl | rfl | rfl | rfl <;> rfl
abbrev c1S (st : Bool) (b : Nat) (s : AskS) : AObj := clM (cliS st s) b false [] .nilslice
abbrev f1S (p : Nat → Nat) (s : AskS) : AObj := .map (enF p s.fl) s.q false
section
variable {P : Program} {oa ol op c2 f2 r23 r24 : AObj} {a d : Nat → AObj} {st : Bool} {s : AskS} {x : Act} (hfl : ∀ z ∈ s.fl, 1 ≤ z.1 ∧ z.1 ≤ 8)
include hfl
theorem askNo_wf (e : Nat) : (askNo st s x e).wfG = true := by
 have p0 : ∀ c, c < 10 → (askNo st s x e).p0 c = true := fun c hc => nblt_iff.2 hc
 have p1' : ∀ c, c < 10 → (askNo st s x e).p1 c = true := fun c hc => by
  show (Nat.blt c 10 || _) = true
  rw [nblt_iff.2 hc]; rfl
 unfold Con.wfG
 refine andT (andT (andT (andT (andT (andT rfl ?_) rfl) ?_) rfl) rfl) rfl
 ·show ((AObj.cells _ false).bel _ && (ebels _ (enF _ s.fl) && true)) = true
  rw [clV_bel (cliS st s) _ _ (p0 1 (by decide)) rfl, enF_bel fun z hz => p0 _ (by have := hfl z hz; show 1 + z.1 < 10; omega)]; rfl
 ·show ((AObj.cells _ false).bel _ && (ebels _ (enF _ s.fl) && true)) = true
  rw [clV_bel (cliS st s) _ _ (p1' 1 (by decide)) rfl, enF_bel fun z hz => p1' _ (by have := hfl z hz; show 1 + z.1 < 10; omega)]; rfl
theorem askYes_wf : (askYes st s x).wfG = true := by
 have p0 : ∀ c, c < 10 → (askYes st s x).p0 c = true := fun c hc => nblt_iff.2 hc
 have p1' : ∀ c, c < 10 → (askYes st s x).p1 c = true := fun c hc => by
  show (Nat.blt c 10 || _) = true
  rw [nblt_iff.2 hc]; rfl
 unfold Con.wfG
 refine andT (andT (andT (andT (andT (andT rfl ?_) rfl) ?_) rfl) rfl) rfl
 ·show ((AObj.cells _ false).bel _ && (ebels _ (enF _ s.fl) && true)) = true
  rw [clV_bel (cliS st s) _ _ (p0 1 (by decide)) rfl, enF_bel fun z hz => p0 _ (by have := hfl z hz; show 1 + z.1 < 10; omega)]; rfl
 ·show ((AObj.cells _ false).bel _ && (ebels _ (enF p1 s.fl ++ [_]) && true)) = true
  rw [clV_bel (cliS st (askStep x s)) _ _ (p1' 1 (by decide)) rfl, ebels_app, enF_bel fun z hz => p1' _ (by have := hfl z hz; show 1 + z.1 < 10; omega)]; rfl
theorem cal11no1 {e : Nat} (h : ConOk P 11 (askNo st s x e)) : CalOk (LAw P) (fn 11) [.ptr 3 0, rqA x] (mk24 oa ol op (c1S st 4 s) (f1S pA6 s) c2 f2 a d r23) (.tuple [.int .u64 ((0 : Nat) : Int), .int .i64 ((e : Nat) : Int)]) (mk24 oa ol op (c1S st 4 s) (f1S pA6 s) c2 f2 a d r23) := by
 have hF : ∀ σ : Nat → Nat, (∀ c, c < 10 → σ c = nthD nm1 c) → (AObj.map (enF p1 s.fl) s.q false).ren σ = f1S pA6 s := fun σ hσ => map_ren2 fun z hz => by
  have := hfl z hz
  rw [hσ _ (by show 1 + z.1 < 10; omega)]; exact nm1_p this
 refine up11 (cal_G (l := nm1) h (askNo_wf hfl e) rfl rfl ⟨.inr (by kernel_rfl), .inr ?_, .inl rfl, .inl rfl, .inl rfl, .inl rfl, .inl rfl, .inl rfl, .inl rfl, .inl rfl, trivial⟩ rfl ?_)
 ·rw [hF (nthD nm1) fun _ _ => rfl]; kernel_rfl
 ·have key : (askNo st s x e).memG (nthD nm1) (mk24 oa ol op (c1S st 4 s) (f1S pA6 s) c2 f2 a d r23) = mk24 oa ol op (c1S st 4 s) ((AObj.map (enF p1 s.fl) s.q false).ren ((askNo st s x e).tau (nthD nm1) 24)) c2 f2 a d r23 := by kernel_rfl
  rw [key, hF _ fun c hc => by show (bif Nat.blt c 10 then nthD nm1 c else _) = _; rw [nblt_iff.2 hc, cond_true]]
theorem cal11no2 {e : Nat} {c1 f1 : AObj} (h : ConOk P 11 (askNo st s x e)) : CalOk (LAw P) (fn 11) [.ptr 5 0, rqA x] (mk24 oa ol op c1 f1 (c1S st 6 s) (f1S pA14 s) a d r23) (.tuple [.int .u64 ((0 : Nat) : Int), .int .i64 ((e : Nat) : Int)]) (mk24 oa ol op c1 f1 (c1S st 6 s) (f1S pA14 s) a d r23) := by
 have hF : ∀ σ : Nat → Nat, (∀ c, c < 10 → σ c = nthD nm2 c) → (AObj.map (enF p1 s.fl) s.q false).ren σ = f1S pA14 s := fun σ hσ => map_ren2 fun z hz => by
  have := hfl z hz
  rw [hσ _ (by show 1 + z.1 < 10; omega)]; exact nm2_p this
 refine up11 (cal_G (l := nm2) h (askNo_wf hfl e) rfl rfl ⟨.inr (by kernel_rfl), .inr ?_, .inl rfl, .inl rfl, .inl rfl, .inl rfl, .inl rfl, .inl rfl, .inl rfl, .inl rfl, trivial⟩ rfl ?_)
 ·rw [hF (nthD nm2) fun _ _ => rfl]; kernel_rfl
 ·have key : (askNo st s x e).memG (nthD nm2) (mk24 oa ol op c1 f1 (c1S st 6 s) (f1S pA14 s) a d r23) = mk24 oa ol op c1 f1 (c1S st 6 s) ((AObj.map (enF p1 s.fl) s.q false).ren ((askNo st s x e).tau (nthD nm2) 24)) a d r23 := by kernel_rfl
  rw [key, hF _ fun c hc => by show (bif Nat.blt c 10 then nthD nm2 c else _) = _; rw [nblt_iff.2 hc, cond_true]]
abbrev f1N (p : Nat → Nat) (s : AskS) (b : Nat) : AObj := .map (enF p s.fl ++ [(.int .u64 ((s.q + 1 : Nat) : Int), .ptr b 0, s.q)]) (s.q + 1) false
abbrev aN (st : Bool) (s : AskS) (x : Act) : AObj := .cells (aoV (cliS st (askStep x s)) (s.q + 1) (askNew x)) false
theorem cal11ye1 (h : ConOk P 11 (askYes st s x)) : CalOk (LAw P) (fn 11) [.ptr 3 0, rqA x] (mk24 oa ol op (c1S st 4 s) (f1S pA6 s) c2 f2 a d r23) (.tuple [.int .u64 ((s.q + 1 : Nat) : Int), .int .i64 ((0 : Nat) : Int)]) (mk25 oa ol op (c1S st 4 (askStep x s)) (f1N pA6 s 24) c2 f2 a d r23 (aN st s x)) := by
 have hF : ∀ σ : Nat → Nat, (∀ c, c < 10 → σ c = nthD nm1 c) → (AObj.map (enF p1 s.fl) s.q false).ren σ = f1S pA6 s := fun σ hσ => map_ren2 fun z hz => by
  have := hfl z hz
  rw [hσ _ (by show 1 + z.1 < 10; omega)]; exact nm1_p this
 refine up11 (cal_G (l := nm1) h (askYes_wf hfl) rfl rfl ⟨.inr (by kernel_rfl), .inr ?_, .inl rfl, .inl rfl, .inl rfl, .inl rfl, .inl rfl, .inl rfl, .inl rfl, .inl rfl, trivial⟩ rfl ?_)
 ·rw [hF (nthD nm1) fun _ _ => rfl]; kernel_rfl
 ·have key : (askYes st s x).memG (nthD nm1) (mk24 oa ol op (c1S st 4 s) (f1S pA6 s) c2 f2 a d r23) = mk25 oa ol op (c1S st 4 (askStep x s)) (.map (erens ((askYes st s x).tau (nthD nm1) 24) (enF p1 s.fl ++ [(.int .u64 ((s.q + 1 : Nat) : Int), .ptr 11 0, s.q)])) (s.q + 1) false) c2 f2 a d r23 (aN st s x) := by kernel_rfl
  rw [key, erens_app, enF_ren, enF_congr (p := fun j => (askYes st s x).tau (nthD nm1) 24 (p1 j)) (p' := pA6) fun z hz => ?_]
  ·rfl
  ·have := hfl z hz
   show (bif Nat.blt (1 + z.1) 10 then nthD nm1 (1 + z.1) else _) = _
   rw [nblt_iff.2 (by omega), cond_true, nm1_p this]
theorem cal11ye2 {c1 f1 : AObj} (h : ConOk P 11 (askYes st s x)) : CalOk (LAw P) (fn 11) [.ptr 5 0, rqA x] (mk25 oa ol op c1 f1 (c1S st 6 s) (f1S pA14 s) a d r23 r24) (.tuple [.int .u64 ((s.q + 1 : Nat) : Int), .int .i64 ((0 : Nat) : Int)]) (mk26 oa ol op c1 f1 (c1S st 6 (askStep x s)) (f1N pA14 s 25) a d r23 r24 (aN st s x)) := by
 have hF : ∀ σ : Nat → Nat, (∀ c, c < 10 → σ c = nthD nm2 c) → (AObj.map (enF p1 s.fl) s.q false).ren σ = f1S pA14 s := fun σ hσ => map_ren2 fun z hz => by
  have := hfl z hz
  rw [hσ _ (by show 1 + z.1 < 10; omega)]; exact nm2_p this
 refine up11 (cal_G (l := nm2) h (askYes_wf hfl) rfl rfl ⟨.inr (by kernel_rfl), .inr ?_, .inl rfl, .inl rfl, .inl rfl, .inl rfl, .inl rfl, .inl rfl, .inl rfl, .inl rfl, trivial⟩ rfl ?_)
 ·rw [hF (nthD nm2) fun _ _ => rfl]; kernel_rfl
 ·have key : (askYes st s x).memG (nthD nm2) (mk25 oa ol op c1 f1 (c1S st 6 s) (f1S pA14 s) a d r23 r24) = mk26 oa ol op c1 f1 (c1S st 6 (askStep x s)) (.map (erens ((askYes st s x).tau (nthD nm2) 25) (enF p1 s.fl ++ [(.int .u64 ((s.q + 1 : Nat) : Int), .ptr 11 0, s.q)])) (s.q + 1) false) a d r23 r24 (aN st s x) := by kernel_rfl
  rw [key, erens_app, enF_ren, enF_congr (p := fun j => (askYes st s x).tau (nthD nm2) 25 (p1 j)) (p' := pA14) fun z hz => ?_]
  ·rfl
  ·have := hfl z hz
   show (bif Nat.blt (1 + z.1) 10 then nthD nm2 (1 + z.1) else _) = _
   rw [nblt_iff.2 (by omega), cond_true, nm2_p this]
end
def askSt (st : Bool) (acs : List Act) (i : Nat) : AskS := (acs.take i).foldl (fun s a => askStep a s) ⟨outS st, 0, fun _ => [], []⟩
theorem askSt_succ {st : Bool} {acs : List Act} {i : Nat} (hi : i < acs.length) : askSt st acs (i + 1) = askStep acs[i] (askSt st acs i) := by
 unfold askSt
 rw [List.take_add_one, List.getElem?_eq_getElem hi]
 simp only [Option.toList_some, List.foldl_append, List.foldl_cons, List.foldl_nil]
theorem askSt_ok {st : Bool} {acs : List Act} (hok : ∀ a ∈ acs, ActOk a) (ht : ∀ a ∈ acs, a.tx.length ≤ 30000) : ∀ i, i ≤ acs.length → AskOk (askSt st acs i) i
 | 0, _ => ⟨Nat.le_refl _, FlS.nil, rfl, by
  show (outS st).length ≤ _
  cases st <;> decide⟩
 | i + 1, h => by
  rw [askSt_succ (by omega)]
  exact askStep_ok (askSt_ok hok ht i (by omega)) (hok _ (List.getElem_mem _)) (ht _ (List.getElem_mem _))
theorem getF_app {k j : Nat} {a : Fly} : ∀ {fl : Fl}, j ≠ k → getF j (fl ++ [(k, a)]) = getF j fl
 | [], h => if_neg h
 | (i, b) :: l, h => by
  show getF j ((i, b) :: (l ++ [(k, a)])) = _
  unfold getF
  rw [getF_app h]
theorem getF_app_self {k : Nat} {a : Fly} : ∀ {fl : Fl}, k ∉ fl.map Prod.fst → getF k (fl ++ [(k, a)]) = some a
 | [], _ => if_pos rfl
 | (i, b) :: l, h => by
  show getF k ((i, b) :: (l ++ [(k, a)])) = _
  unfold getF
  rw [if_neg fun e => h (by rw [e]; exact List.mem_cons_self ..)]
  exact getF_app_self fun hh => h (List.mem_cons_of_mem _ hh)
abbrev aS (st : Bool) (s : AskS) : Nat → AObj := aF (cliS st s) s.fl
theorem askGood_eq {s : AskS} {x : Act} (h : askGood x) : askStep x s = ⟨s.ou ++ (rqL (x.kd % 65536) (s.q + 1) x.of x.ln ++ x.tx), s.q + 1, fun j => if j = s.q + 1 then x.tx else s.dt j, s.fl ++ [(s.q + 1, askNew x)]⟩ := if_pos h
theorem aS_step {st : Bool} {s : AskS} {i : Nat} (h : AskOk s i) {x : Act} (hg : askGood x) (j : Nat) : (j ≤ s.q → aS st (askStep x s) j = aS st s j) ∧ (j = s.q + 1 → aS st (askStep x s) j = aN st s x) ∧ (s.q + 1 < j → aS st (askStep x s) j = .dead) := by
 have hn : ∀ k, s.q < k → k ∉ s.fl.map Prod.fst := fun k hk hm => by
  obtain ⟨z, hz, e⟩ := List.mem_map.1 hm
  have := (h.fl.key z hz).2
  omega
 have e := askGood_eq (s := s) hg
 refine ⟨fun hj => ?_, fun hj => ?_, fun hj => ?_⟩
 ·show aoO (cliS st (askStep x s)) j (getF j (askStep x s).fl) = aoO (cliS st s) j (getF j s.fl)
  rw [e]
  show aoO _ j (getF j (s.fl ++ [_])) = _
  rw [getF_app (show j ≠ s.q + 1 by omega)]
  cases getF j s.fl with
  | none => rfl
  | some b =>
   show AObj.cells [_, _, _, _, _, .str (if j = s.q + 1 then x.tx else s.dt j), _, _] false = .cells [_, _, _, _, _, .str (s.dt j), _, _] false
   rw [if_neg (by omega)]
 ·subst hj
  show aoO (cliS st (askStep x s)) _ (getF _ (askStep x s).fl) = .cells (aoV (cliS st (askStep x s)) (s.q + 1) (askNew x)) false
  have e2 : getF (s.q + 1) (askStep x s).fl = some (askNew x) := by rw [e]; exact getF_app_self (hn _ (by omega))
  rw [e2]; rfl
 ·show aoO (cliS st (askStep x s)) _ (getF j (askStep x s).fl) = .dead
  have e2 : getF j (askStep x s).fl = none := by
   rw [e]
   show getF j (s.fl ++ [_]) = none
   rw [getF_app (by omega)]
   exact getF_notin (hn _ (by omega))
  rw [e2]; rfl
def nmA (q : Nat) : List Nat := [0, 1, 2, 3, 4, 5, 6] ++ ((List.range 8).map fun j => bif Nat.blt j q then 7 + j else bif Nat.beq j q then 24 else 100 + j) ++ ((List.range 8).map fun j => bif Nat.blt j q then 15 + j else bif Nat.beq j q then 25 else 200 + j)
abbrev id23 : List Nat := [0, 1, 2, 3, 4, 5, 6, 7, 8, 9, 10, 11, 12, 13, 14, 15, 16, 17, 18, 19, 20, 21, 22]
theorem nmA_ok {q : Nat} (h : q < 8) : (nodupL (nmA q) && Nat.beq (nmA q).length 23) = true ∧ (nmA q).take 3 = [0, 1, 2] ∧ nthD (nmA q) 0 = 0 ∧ nthD (nmA q) 1 = 1 ∧ nthD (nmA q) 2 = 2 ∧ nthD (nmA q) 3 = 3 ∧ nthD (nmA q) 4 = 4 ∧ nthD (nmA q) 5 = 5 ∧ nthD (nmA q) 6 = 6 ∧ ∀ j, 1 ≤ j ∧ j ≤ 8 → (j ≤ q → nthD (nmA q) (6 + j) = 6 + j ∧ nthD (nmA q) (14 + j) = 14 + j) ∧ (j = q + 1 → nthD (nmA q) (6 + j) = 24 ∧ nthD (nmA q) (14 + j) = 25) := by
 match q, h with
 | 0, _ | 1, _ | 2, _ | 3, _ | 4, _ | 5, _ | 6, _ | 7, _ =>
  refine ⟨by decide, by decide, by decide, by decide, by decide, by decide, by decide, by decide, by decide, fun j hj => ?_⟩
  rcases k8 hj with rfl | rfl | rfl | rfl | rfl | rfl | rfl | rfl <;> decide
 | n + 8, h => omega
theorem id23_lt : ∀ {c : Nat}, c < 23 → nthD id23 c = c := by
 intro c h
 match c, h with
 | 0, _ | 1, _ | 2, _ | 3, _ | 4, _ | 5, _ | 6, _ | 7, _ | 8, _ | 9, _ | 10, _ | 11, _ | 12, _ | 13, _ | 14, _ | 15, _ | 16, _ | 17, _ | 18, _ | 19, _ | 20, _ | 21, _ | 22, _ => rfl
 | n + 23, h => omega
section
variable {oa ol op c1 f1 c2 f2 r23 r24 r25 : AObj} {a d : Nat → AObj}
theorem g26a {j : Nat} (h : 1 ≤ j ∧ j ≤ 8) : (mk26 oa ol op c1 f1 c2 f2 a d r23 r24 r25).get (6 + j) = some (a j) := by rcases k8 h with rfl | rfl | rfl | rfl | rfl | rfl | rfl | rfl <;> kernel_rfl
theorem g26d {j : Nat} (h : 1 ≤ j ∧ j ≤ 8) : (mk26 oa ol op c1 f1 c2 f2 a d r23 r24 r25).get (14 + j) = some (d j) := by rcases k8 h with rfl | rfl | rfl | rfl | rfl | rfl | rfl | rfl <;> kernel_rfl
theorem g24a {j : Nat} (h : 1 ≤ j ∧ j ≤ 8) : (mk24 oa ol op c1 f1 c2 f2 a d r23).get (6 + j) = some (a j) := by rcases k8 h with rfl | rfl | rfl | rfl | rfl | rfl | rfl | rfl <;> kernel_rfl
theorem g24d {j : Nat} (h : 1 ≤ j ∧ j ≤ 8) : (mk24 oa ol op c1 f1 c2 f2 a d r23).get (14 + j) = some (d j) := by rcases k8 h with rfl | rfl | rfl | rfl | rfl | rfl | rfl | rfl <;> kernel_rfl
end
def HeadO (N : Nat) (l : List Nat) (m : Mem) (x : Nat) (o : AObj) : Prop := o = .dead ∨ (o.lowIt 3 = true ∧ m.get (nthD l x) = some o) ∨ m.get (nthD l x) = some (o.ren (nthD l)) ∧ o.bel (fun c => Nat.blt c N) = true
theorem headO_low {N : Nat} {l : List Nat} {m : Mem} {x : Nat} {o : AObj} (h : Low o) (hg : m.get (nthD l x) = some o) : HeadO N l m x o := low_pre h hg
theorem headO_cl {N : Nat} {l : List Nat} {m : Mem} {x b b' : Nat} {W : Cli} {ov : Bool} {inb : List Nat} {rv rv' : V} (hg : m.get (nthD l x) = some (clM W b' ov inb rv')) (hb : nthD l b = b') (hr : rv.ren (nthD l) = rv') (h1 : b < N) (h2 : rv.bel (fun c => Nat.blt c N) = true) : HeadO N l m x (clM W b ov inb rv) := by
 subst hb; subst hr
 refine .inr (.inr ⟨hg, ?_⟩)
 show (Nat.blt b N && (true && (rv.bel _ && true))) = true
 rw [nblt_iff.2 h1, h2]; rfl
theorem headO_map {N : Nat} {l : List Nat} {m : Mem} {x : Nat} {p p' : Nat → Nat} {fl : Fl} {c : Nat} {ro : Bool} (hg : m.get (nthD l x) = some (.map (enF p' fl) c ro)) (h : ∀ z ∈ fl, nthD l (p z.1) = p' z.1 ∧ p z.1 < N) : HeadO N l m x (.map (enF p fl) c ro) := by
 refine .inr (.inr ⟨?_, enF_bel fun z hz => nblt_iff.2 (h z hz).2⟩)
 rw [hg, map_ren2 fun z hz => (h z hz).1]
theorem headO_a {N : Nat} {l : List Nat} {m : Mem} {x : Nat} {W : Cli} {fl : Fl} {j : Nat} {o : AObj} (hg : m.get (nthD l x) = some o) (h : aF W fl j = .dead ∨ o = aF W fl j) : HeadO N l m x (aF W fl j) := by
 rcases h with h | h
 ·exact .inl h
 ·refine .inr (.inr ⟨?_, aoO_bel _ _ _ _⟩)
  show m.get _ = some ((aoO W j (getF j fl)).ren _)
  rw [hg, h, aoO_ren]
theorem headO_dead {N : Nat} {l : List Nat} {m : Mem} {x : Nat} : HeadO N l m x .dead := .inl rfl
abbrev headA (st : Bool) (oa ol op : AObj) (s : AskS) : Mem := mk23 oa ol op (c1S st 4 s) (f1S pA6 s) (c1S st 6 s) (f1S pA14 s) (aS st s) (aS st s)
theorem ren23 {m : Mem} {l : List Nat} (hl : (nodupL l && Nat.beq l.length 23) = true) (h3 : l.take 3 = [0, 1, 2]) {oa ol op c1 f1 c2 f2 : AObj} {a d : Nat → AObj} (h0 : HeadO 23 l m 0 oa) (h1 : HeadO 23 l m 1 ol) (h2 : HeadO 23 l m 2 op) (h4 : HeadO 23 l m 3 c1) (h5 : HeadO 23 l m 4 f1) (h6 : HeadO 23 l m 5 c2) (h7 : HeadO 23 l m 6 f2)
  (ha : ∀ j, 1 ≤ j ∧ j ≤ 8 → HeadO 23 l m (6 + j) (a j)) (hd : ∀ j, 1 ≤ j ∧ j ≤ 8 → HeadO 23 l m (14 + j) (d j)) : RenM 3 l m (mk23 oa ol op c1 f1 c2 f2 a d) :=
 renM_of (objs := [oa, ol, op, c1, f1, c2, f2, a 1, a 2, a 3, a 4, a 5, a 6, a 7, a 8, d 1, d 2, d 3, d 4, d 5, d 6, d 7, d 8]) h3 (by
  simp only [Bool.and_eq_true] at hl
  have := Nat.eq_of_beq_eq_true hl.2
  omega) hl ⟨h0, h1, h2, h4, h5, h6, h7, ha 1 (by decide), ha 2 (by decide), ha 3 (by decide), ha 4 (by decide), ha 5 (by decide), ha 6 (by decide), ha 7 (by decide), ha 8 (by decide), hd 1 (by decide), hd 2 (by decide), hd 3 (by decide), hd 4 (by decide), hd 5 (by decide), hd 6 (by decide), hd 7 (by decide), hd 8 (by decide), trivial⟩
abbrev slA (st : Bool) (sa sl sp : V) (w : List Nat) (i : Nat) : List (Sl × V) := [(s0, .bool st), (s1, sa), (s2, sl), (s3, sp), (s9, .str w), (s11, .ptr 3 0), (s12, .ptr 5 0), (s15, .int .i64 ((i : Nat) : Int))]
section
variable {P : Program} {oa ol op : AObj} {st : Bool} {sa sl sp : V} {w : List Nat} (h0 : Low oa) (h1 : Low ol) (h2 : Low op) (v0 : LowV sa) (v1 : LowV sl) (v2 : LowV sp)
include v0 v1 v2
theorem slA_back {l : List Nat} (h3 : l.take 3 = [0, 1, 2]) (h5 : V.back l (.ptr 3 0) = .ptr 3 0) (h6 : V.back l (.ptr 5 0) = .ptr 5 0) (i : Nat) : backS l (slA st sa sl sp w i) = slA st sa sl sp w i := by
 rw [show backS l (slA st sa sl sp w i) = [(s0, .bool st), (s1, sa.back l), (s2, sl.back l), (s3, sp.back l), (s9, .str w), (s11, V.back l (.ptr 3 0)), (s12, V.back l (.ptr 5 0)), (s15, .int .i64 ((i : Nat) : Int))] from rfl, v0 _ h3, v1 _ h3, v2 _ h3, h5, h6]
include h0 h1 h2
theorem ask_round (hC : ∀ (s : AskS) (i : Nat) (a : Act), AskOk s i → i < 8 → ActOk a → a.tx.length ≤ 30000 → (askStep a s = s ∧ ∃ e, ConOk P 11 (askNo st s a e)) ∨ (askGood a ∧ ConOk P 11 (askYes st s a)))
  {acs : List Act} (hA : SlP 0 acs sa oa) (hok : ∀ a ∈ acs, ActOk a) (hl : acs.length ≤ 100) (ht : ∀ a ∈ acs, a.tx.length ≤ 30000) {i : Nat} (hi : i < acs.length) (hi8 : i < 8) :
  ∃ (Mg : Mem) (q : List Nat), RenM 3 q Mg (headA st oa ol op (askSt st acs (i + 1))) ∧ backS q (slA st sa sl sp w (i + 1)) = slA st sa sl sp w (i + 1) ∧
   ∀ (Y : Ys Prop) (T : Slots), allS T (slA st sa sl sp w i) → ∀ K : Ex → Slots → Mem → Prop, (∀ T', allS T' (slA st sa sl sp w (i + 1)) → K .normal T' Mg) → code pA (callD pA tb0 (LAw P) 5) Y c3l2 T (headA st oa ol op (askSt st acs i)) K := by
 have hs := askSt_ok (st := st) hok ht i (by omega)
 rw [askSt_succ hi]
 generalize askSt st acs i = s at hs ⊢
 have hact := hok _ (List.getElem_mem hi)
 have hatx := ht _ (List.getElem_mem hi)
 have hx2 : nth (acs.flatMap actV) (i * 10 + 2) = some (.int .u32 ((acs[i].kd : Nat) : Int)) := (flat_nth hi 2 (by decide)).trans rfl
 have hx7 : nth (acs.flatMap actV) (i * 10 + 7) = some (.int .u64 ((acs[i].of : Nat) : Int)) := (flat_nth hi 7 (by decide)).trans rfl
 have hx4 : nth (acs.flatMap actV) (i * 10 + 4) = some (.int .u32 ((acs[i].ln : Nat) : Int)) := (flat_nth hi 4 (by decide)).trans rfl
 have hx8 : nth (acs.flatMap actV) (i * 10 + 8) = some (.str acs[i].tx) := (flat_nth hi 8 (by decide)).trans rfl
 have hfl : ∀ z ∈ s.fl, 1 ≤ z.1 ∧ z.1 ≤ 8 := fun z hz => by have := hs.fl.key z hz; have := hs.q; omega
 generalize acs[i] = x at hact hatx hx2 hx7 hx4 hx8 ⊢
 cases hA with
 | nil h => subst h; cases hi
 | zero k h => subst h; cases hi
 | some h =>
  rcases hC s i x hs hi8 hact hatx with ⟨he, e, hcon⟩ | ⟨hg, hcon⟩
  ·rw [he]
   refine ⟨_, id23, ?_, slA_back v0 v1 v2 rfl rfl rfl _, fun Y T hT K hK => as_x Y (LAw P) (monoL P) ol op _ _ _ _ _ _ _ _ _ _ _ _ _ _ _ _ _ _ _ _ _ _ _ _ w st sl sp _ acs.length i hi hl hi8 x.kd x.of x.ln 0 e x.tx hact.kd hx2 hx7 hx4 hx8 (cal11no1 hfl hcon) (cal11no2 hfl hcon) T hT K hK⟩
   refine ren23 (by decide) rfl (headO_low h0 (by kernel_rfl)) (headO_low h1 (by kernel_rfl)) (headO_low h2 (by kernel_rfl)) (headO_cl (by kernel_rfl) rfl rfl (by decide) rfl) (headO_map (p' := pA6) (by kernel_rfl) fun z hz => ?_) (headO_cl (by kernel_rfl) rfl rfl (by decide) rfl) (headO_map (p' := pA14) (by kernel_rfl) fun z hz => ?_) (fun j hj => headO_a (by rw [id23_lt (by omega)]; exact g24a hj) (.inr rfl)) (fun j hj => headO_a (by rw [id23_lt (by omega)]; exact g24d hj) (.inr rfl))
   ·have := hfl z hz
    exact ⟨id23_lt (by show 6 + z.1 < 23; omega), by show 6 + z.1 < 23; omega⟩
   ·have := hfl z hz
    exact ⟨id23_lt (by show 14 + z.1 < 23; omega), by show 14 + z.1 < 23; omega⟩
  ·have hq := hs.q
   obtain ⟨e0, e1, e2, e3, e4, e5, e6, e7, e8, ej⟩ := nmA_ok (q := s.q) (by omega)
   refine ⟨_, nmA s.q, ?_, slA_back v0 v1 v2 e1 ?_ ?_ _, fun Y T hT K hK => as_o Y (LAw P) (monoL P) ol op _ _ _ _ _ _ _ _ _ _ _ _ _ _ _ _ _ _ _ _ _ _ _ _ w st sl sp _ acs.length i hi hl hi8 x.kd x.of x.ln (s.q + 1) 0 x.tx hact.kd hx2 hx7 hx4 hx8 _ _ (cal11ye1 hfl hcon) (cal11ye2 hfl hcon) T hT K hK⟩
   ·have hA := aS_step (st := st) hs hg
    have es := askGood_eq (s := s) hg
    have hm : ∀ (p : Nat → Nat) (b : Nat), (∀ j, 1 ≤ j ∧ j ≤ 8 → j ≤ s.q → nthD (nmA s.q) (p j) = p j) → nthD (nmA s.q) (p (s.q + 1)) = b → (∀ j, j ≤ 8 → p j < 23) → ∀ (m : Mem) (y : Nat), m.get (nthD (nmA s.q) y) = some (f1N p s b) → HeadO 23 (nmA s.q) m y (f1S p (askStep x s)) := by
     intro p b hp1 hp2 hp3 m y hgm
     have ef : (f1S p (askStep x s)) = .map (enF p (s.fl ++ [(s.q + 1, askNew x)])) (s.q + 1) false := by rw [es]
     rw [ef]
     refine .inr (.inr ⟨?_, enF_bel fun z hz => nblt_iff.2 (hp3 _ ?_)⟩)
     ·rw [hgm]
      show some (AObj.map _ _ _) = some (AObj.map (erens _ (enF p (s.fl ++ [(s.q + 1, askNew x)]))) _ _)
      rw [enF_ren]
      have e9 : ∀ (pp : Nat → Nat) (z : Nat × Fly), enF pp (s.fl ++ [z]) = enF pp s.fl ++ [(.int .u64 ((z.1 : Nat) : Int), .ptr (pp z.1) 0, z.1 - 1)] := fun pp z => by unfold enF; rw [List.map_append]; rfl
      rw [e9, enF_congr (p := fun j => nthD (nmA s.q) (p j)) (p' := p) fun z hz => hp1 _ (hfl z hz) (hs.fl.key z hz).2, hp2]
      rfl
     ·rcases List.mem_append.1 hz with hz | hz
      ·exact (hfl z hz).2
      ·rw [List.mem_singleton.1 hz]; show s.q + 1 ≤ 8; omega
    refine ren23 e0 e1 (headO_low h0 (by rw [e2]; kernel_rfl)) (headO_low h1 (by rw [e3]; kernel_rfl)) (headO_low h2 (by rw [e4]; kernel_rfl)) (headO_cl (by rw [e5]; kernel_rfl) e6 rfl (by decide) rfl) (hm pA6 24 (fun j hj hjq => ((ej j hj).1 hjq).1) ((ej (s.q + 1) ⟨by omega, by omega⟩).2 rfl).1 (fun j hj => by show 6 + j < 23; omega) _ 4 (by rw [e6]; kernel_rfl)) (headO_cl (by rw [e7]; kernel_rfl) e8 rfl (by decide) rfl) (hm pA14 25 (fun j hj hjq => ((ej j hj).1 hjq).2) ((ej (s.q + 1) ⟨by omega, by omega⟩).2 rfl).2 (fun j hj => by show 14 + j < 23; omega) _ 6 (by rw [e8]; kernel_rfl)) (fun j hj => ?_) (fun j hj => ?_)
    ·rcases Nat.lt_trichotomy j (s.q + 1) with h9 | h9 | h9
     ·refine headO_a (o := aS st s j) ?_ (.inr ((hA j).1 (by omega)).symm)
      rw [((ej j hj).1 (by omega)).1]; exact g26a hj
     ·refine headO_a (o := aN st s x) ?_ (.inr ((hA j).2.1 h9).symm)
      rw [((ej j hj).2 h9).1]; kernel_rfl
     ·have := (hA j).2.2 h9
      show HeadO 23 _ _ _ (aS st (askStep x s) j)
      rw [this]; exact headO_dead
    ·rcases Nat.lt_trichotomy j (s.q + 1) with h9 | h9 | h9
     ·refine headO_a (o := aS st s j) ?_ (.inr ((hA j).1 (by omega)).symm)
      rw [((ej j hj).1 (by omega)).2]; exact g26d hj
     ·refine headO_a (o := aN st s x) ?_ (.inr ((hA j).2.1 h9).symm)
      rw [((ej j hj).2 h9).2]; kernel_rfl
     ·have := (hA j).2.2 h9
      show HeadO 23 _ _ _ (aS st (askStep x s) j)
      rw [this]; exact headO_dead
   ·match hq8 : s.q, (by omega : s.q < 8) with
    | 0, _ | 1, _ | 2, _ | 3, _ | 4, _ | 5, _ | 6, _ | 7, _ => rfl
    | n + 8, h => omega
   ·match hq8 : s.q, (by omega : s.q < 8) with
    | 0, _ | 1, _ | 2, _ | 3, _ | 4, _ | 5, _ | 6, _ | 7, _ => rfl
    | n + 8, h => omega
end
abbrev qA0 : List Nat := [0, 1, 2, 3, 4, 5, 6, 100, 101, 102, 103, 104, 105, 106, 107, 200, 201, 202, 203, 204, 205, 206, 207]
section
variable {P : Program} {oa ol op : AObj} {st : Bool} {sa sl sp : V} {w : List Nat} (h0 : Low oa) (h1 : Low ol) (h2 : Low op) (v0 : LowV sa) (v1 : LowV sl) (v2 : LowV sp)
include h0 h1 h2 v0 v1 v2
theorem ask_loop (hC : ∀ (s : AskS) (i : Nat) (a : Act), AskOk s i → i < 8 → ActOk a → a.tx.length ≤ 30000 → (askStep a s = s ∧ ∃ e, ConOk P 11 (askNo st s a e)) ∨ (askGood a ∧ ConOk P 11 (askYes st s a)))
  {acs : List Act} (hA : SlP 0 acs sa oa) (hok : ∀ a ∈ acs, ActOk a) (hl : acs.length ≤ 100) (ht : ∀ a ∈ acs, a.tx.length ≤ 30000) {x7 : AObj} :
  LoopOkD (callD pA tb0 (LAw P) 5) 3 c3l2 (.exit 4) (memL 8 [(0, oa), (1, ol), (2, op), (3, preM 4 st 58), (4, mp0), (5, preM 6 st 58), (6, mp0), (7, x7)]) (slA st sa sl sp w 0) (fun _ => True) (fun _ => headA st oa ol op (askSt st acs (min acs.length 8))) (fun _ => slZ st sa sl sp w) := by
 have hr := fun i (hi : i < min acs.length 8) => ask_round (P := P) (w := w) h0 h1 h2 v0 v1 v2 hC hA hok hl ht (i := i) (by omega) (by omega)
 classical
 let Mg : Nat → Mem := fun i => if h : i < min acs.length 8 then (hr i h).choose else memL 0 []
 let q : Nat → List Nat := fun i => if h : i < min acs.length 8 then (hr i h).choose_spec.choose else []
 have hs : ∀ i, i < min acs.length 8 → RenM 3 (q i) (Mg i) (headA st oa ol op (askSt st acs (i + 1))) ∧ backS (q i) (slA st sa sl sp w (i + 1)) = slA st sa sl sp w (i + 1) ∧
   ∀ (Y : Ys Prop) (T : Slots), allS T (slA st sa sl sp w i) → ∀ K : Ex → Slots → Mem → Prop, (∀ T', allS T' (slA st sa sl sp w (i + 1)) → K .normal T' (Mg i)) → code pA (callD pA tb0 (LAw P) 5) Y c3l2 T (headA st oa ol op (askSt st acs i)) K := by
  intro i hi
  have h := (hr i hi).choose_spec.choose_spec
  simp only [Mg, q, dif_pos hi]
  exact h
 refine loopR (cfy := callD pA tb0 (LAw P) 5) (b := c3l2) (e := .exit 4) (B := 3) (fun h => by cases h) (min acs.length 8) (Nat.lt_of_lt_of_le (rounds_big (n := min acs.length 8) (by omega)) (Nat.sub_le _ _)) (l0 := slA st sa sl sp w 0) (q0 := qA0) (M0 := memL 8 [(0, oa), (1, ol), (2, op), (3, preM 4 st 58), (4, mp0), (5, preM 6 st 58), (6, mp0), (7, x7)])
  (M := fun i => headA st oa ol op (askSt st acs i)) (Mg := Mg) (l := fun i => slA st sa sl sp w i) (lg := fun i => slA st sa sl sp w (i + 1)) (q := q) (M1 := headA st oa ol op (askSt st acs (min acs.length 8))) (l1 := slZ st sa sl sp w)
  ?_ (slA_back v0 v1 v2 rfl rfl rfl _) (fun i hi => (hs i hi).1) (fun i hi => (hs i hi).2.1) (fun Y i T hi hT K hK => (hs i hi).2.2 Y T hT K hK) (fun Y T hT K hK => ?_)
 ·have e : ∀ j, aS st (askSt st acs 0) j = .dead := fun j => rfl
  refine ren23 (by decide) rfl (headO_low h0 (by kernel_rfl)) (headO_low h1 (by kernel_rfl)) (headO_low h2 (by kernel_rfl)) ?_ ?_ ?_ ?_ (fun j hj => by show HeadO 23 _ _ _ (aS st (askSt st acs 0) j); rw [e]; exact headO_dead) (fun j hj => by show HeadO 23 _ _ _ (aS st (askSt st acs 0) j); rw [e]; exact headO_dead)
  ·exact headO_cl (by kernel_rfl) rfl rfl (by decide) rfl
  ·exact .inr (.inr ⟨by kernel_rfl, rfl⟩)
  ·exact headO_cl (by kernel_rfl) rfl rfl (by decide) rfl
  ·exact .inr (.inr ⟨by kernel_rfl, rfl⟩)
 ·cases hA with
  | nil h => subst h; exact as_n Y (LAw P) (monoL P) .dead ol op _ _ _ _ .dead .dead .dead .dead _ _ _ _ _ _ _ _ _ _ _ _ _ _ _ _ w st sl sp [] 0 0 T hT K hK
  | zero k h => subst h; exact as_z Y (LAw P) (monoL P) .dead ol op _ _ _ _ .dead .dead .dead .dead _ _ _ _ _ _ _ _ _ _ _ _ _ _ _ _ w st sl sp [] 0 0 k T hT K hK
  | some h =>
   by_cases h8 : acs.length ≤ 8
   ·exact as_e Y (LAw P) (monoL P) ol op _ _ _ _ .dead .dead .dead .dead _ _ _ _ _ _ _ _ _ _ _ _ _ _ _ _ w st sl sp _ acs.length (min acs.length 8) hl (by omega) T hT K hK
   ·exact as_f Y (LAw P) (monoL P) ol op _ _ _ _ .dead .dead .dead .dead _ _ _ _ _ _ _ _ _ _ _ _ _ _ _ _ w st sl sp _ acs.length (min acs.length 8) hl (by omega) (by omega) T hT K hK
end
theorem out_none {f : Fl} {r : Reps} {k : Nat} {x : Stp} (h : Out f r k x) {j : Nat} (hj : getF j f = none) : getF j x.fl = none := by
 cases h with
 | bad => rfl
 | need => exact hj
 | put hg h h0 =>
  show getF j (putF k _ f) = none
  rw [getF_put_ne (fun e => by subst e; rw [hj] at hg; cases hg)]; exact hj
 | dn hg h0 =>
  show getF j (delF k f) = none
  rw [getF_del_ne (fun e => by subst e; rw [hj] at hg; cases hg)]; exact hj
theorem seq_none {c : Cst} (hc : CstOk 8 c) {j : Nat} (hj : getF j c.fl = none) : ∀ i, getF j (seqC c i).1.fl = none
 | 0 => hj
 | i + 1 => out_none (ans_out (seqC_ok hc i).byt _ _) (seq_none hc hj i)
theorem feed_cst {c : Cst} (hc : CstOk 8 c) {b : List Nat} (hb : ∀ x ∈ b, x < 256) : CstOk 8 (feedC 1032 c b) ∧ (∀ j, getF j c.fl = none → getF j (feedC 1032 c b).fl = none) ∧ c.rep.length ≤ (feedC 1032 c b).rep.length ∧ (feedC 1032 c b).inb.length ≤ c.inb.length + b.length := by
 unfold feedC
 cases ho : c.over with
 | true => rw [if_pos rfl]; exact ⟨hc, fun _ h => h, Nat.le_refl _, by omega⟩
 | false =>
  rw [if_neg (by decide)]
  have hc2 : CstOk 8 ⟨false, c.inb ++ b, c.fl, c.rep⟩ := ⟨hc.fl, fun x hx => (List.mem_append.1 hx).elim (hc.byt x) (hb x), hc.cnt, fun h => by cases h⟩
  obtain ⟨N, _, _, _, _, g5⟩ := run_seq (c.inb.length + b.length + 1) ⟨false, c.inb ++ b, c.fl, c.rep⟩ rfl (by show (c.inb ++ b).length < _; rw [List.length_append]; omega)
  rw [← g5]
  refine ⟨seqC_ok hc2 N, fun j hj => seq_none hc2 hj N, seq_rep hc2 N, ?_⟩
  have := seq_inb (c := ⟨false, c.inb ++ b, c.fl, c.rep⟩) N
  simpa using this
def fL (l : List AObj) (i : Nat) : AObj := l.getD i .dead
theorem live_or {W : Cli} {fc fd : Fl} {j : Nat} (h : getF j fc = none → getF j fd = none) (τ : Nat → Nat) : (bif (aF W fc j).live then (aF W fd j).ren τ else aF W fc j) = aF W fd j := by
 show (bif (aoO W j (getF j fc)).live then (aoO W j (getF j fd)).ren τ else aoO W j (getF j fc)) = aoO W j (getF j fd)
 rw [aoO_ren]
 cases hg : getF j fc with
 | none => rw [h hg]; rfl
 | some b => rfl
abbrev nf1 : List Nat := [3, 4, 1000, 7, 8, 9, 10, 11, 12, 13, 14]
abbrev nf2 : List Nat := [5, 6, 24, 15, 16, 17, 18, 19, 20, 21, 22]
theorem nf1_p {j : Nat} (h : 1 ≤ j ∧ j ≤ 8) : nthD nf1 (2 + j) = 6 + j := by rcases k8 h with rfl | rfl | rfl | rfl | rfl | rfl | rfl | rfl <;> rfl
theorem nf2_p {j : Nat} (h : 1 ≤ j ∧ j ≤ 8) : nthD nf2 (2 + j) = 14 + j := by rcases k8 h with rfl | rfl | rfl | rfl | rfl | rfl | rfl | rfl <;> rfl
abbrev kS (W : Cli) (c : Cst) (b : List Nat) (d : Cst) : Con := ⟨[.ptr 0 0, .str b], bl11 W c, .tuple [], bl11 W d, []⟩
abbrev kN (W : Cli) (c : Cst) (b : List Nat) (d : Cst) : Con := ⟨[.ptr 0 0, .str b], bl11 W c, .tuple [], bl11' W d, [(11, .cells (repV d.rep) false)]⟩
section
variable {W : Cli} {c d : Cst} {b : List Nat} (hc : ∀ x ∈ c.fl, 1 ≤ x.1 ∧ x.1 ≤ 8) (hd : ∀ x ∈ d.fl, 1 ≤ x.1 ∧ x.1 ≤ 8)
include hc hd
theorem blk_bel {p : Nat → Bool} (h : ∀ c, c < 11 → p c = true) (e : Cst) (he : ∀ x ∈ e.fl, 1 ≤ x.1 ∧ x.1 ≤ 8) : (bl11 W e).all (fun o => o.bel p) = true := by
 have hrv : (rvR 2 e.rep).bel p = true := by
  show (if e.rep = [] then V.nilslice else _).bel p = true
  split
  ·rfl
  ·exact h 2 (by decide)
 show ((AObj.cells _ false).bel p && (ebels p (enF pF e.fl) && ((rC e.rep).bel p && ((aoO _ _ _).bel p && ((aoO _ _ _).bel p && ((aoO _ _ _).bel p && ((aoO _ _ _).bel p && ((aoO _ _ _).bel p && ((aoO _ _ _).bel p && ((aoO _ _ _).bel p && ((aoO _ _ _).bel p && true))))))))))) = true
 rw [clV_bel W _ _ (h 1 (by decide)) hrv, enF_bel fun z hz => h _ (by have := he z hz; show 2 + z.1 < 11; omega), rC_bel, aoO_bel, aoO_bel, aoO_bel, aoO_bel, aoO_bel, aoO_bel, aoO_bel, aoO_bel]; rfl
theorem kS_wf : (kS W c b d).wfG = true := by
 have p0 : ∀ x, x < 11 → (kS W c b d).p0 x = true := fun x hx => nblt_iff.2 hx
 have p1' : ∀ x, x < 11 → (kS W c b d).p1 x = true := fun x hx => by
  show (Nat.blt x 11 || _) = true
  rw [nblt_iff.2 hx]; rfl
 unfold Con.wfG
 exact andT (andT (andT (andT (andT (andT rfl (blk_bel hc hd p0 c hc)) rfl) (blk_bel hc hd p1' d hd)) rfl) rfl) rfl
theorem kN_wf : (kN W c b d).wfG = true := by
 have p0 : ∀ x, x < 11 → (kN W c b d).p0 x = true := fun x hx => nblt_iff.2 hx
 have p1' : ∀ x, x < 12 → (kN W c b d).p1 x = true := fun x hx => by
  by_cases h : x < 11
  ·show (Nat.blt x 11 || _) = true
   rw [nblt_iff.2 h]; rfl
  ·have : x = 11 := by omega
   subst this; rfl
 have hrv : (rvR 11 d.rep).bel (kN W c b d).p1 = true := by
  show (if d.rep = [] then V.nilslice else _).bel _ = true
  split
  ·rfl
  ·exact p1' 11 (by decide)
 unfold Con.wfG
 refine andT (andT (andT (andT (andT (andT rfl (blk_bel hc hd p0 c hc)) rfl) ?_) ?_) rfl) rfl
 ·show ((AObj.cells _ false).bel _ && (ebels _ (enF pF d.fl) && (true && ((aoO _ _ _).bel _ && ((aoO _ _ _).bel _ && ((aoO _ _ _).bel _ && ((aoO _ _ _).bel _ && ((aoO _ _ _).bel _ && ((aoO _ _ _).bel _ && ((aoO _ _ _).bel _ && ((aoO _ _ _).bel _ && true))))))))))) = true
  rw [clV_bel W _ _ (p1' 1 (by decide)) hrv, enF_bel fun z hz => p1' _ (by have := hd z hz; show 2 + z.1 < 12; omega), aoO_bel, aoO_bel, aoO_bel, aoO_bel, aoO_bel, aoO_bel, aoO_bel, aoO_bel]; rfl
 ·show (bels _ (repV _) && true && true && true) = true
  rw [bels_repV]; rfl
end
end Go.Proofs.Ytblblhfgpcgheaa
