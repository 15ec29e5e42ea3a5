/- The law answers true. No condition. -/
import Derived.Test.YtblblhfgpcgheaaTJ
import Derived.Test.YtblblhfgpcgheaaAM55
namespace Go.Proofs.Ytblblhfgpcgheaa
open Go Go.AM
set_option maxRecDepth 100000
set_option maxHeartbeats 4000000
set_option linter.unusedVariables false
set_option linter.unusedSectionVars false
structure Known (P : Program) : Prop where
 mix : P.follows .mixedOrders = true
 ft : TabOk P ft.get
 o5 : FOk P 5 c5
 o6 : FOk P 6 c6
 o7 : FOk P 7 c7
 o8 : FOk P 8 c8
 o9 : FOk P 9 c9
 o10 : FOk P 10 c10
 o11 : FOk P 11 c11
 o12 : FOk P 12 c12
 o13 : FOk P 13 c13
 o14 : FOk P 14 c14
 o15 : FOk P 15 c15
 o16 : FOk P 16 c16
 o17 : FOk P 17 c17
 o19 : FOk P 19 c19
 o20 : FOk P 20 c20
 o21 : FOk P 21 c21
 o24 : FOk P 24 c24
 o25 : FOk P 25 c25
 o26 : FOk P 26 c26
 o28 : FOk P 28 c28
 o33 : FOk P 33 c33
 o35 : FOk P 35 c35
 o39 : FOk P 39 c39
 o40 : FOk P 40 c40
 o41 : FOk P 41 c41
 o42 : FOk P 42 c42
 o43 : FOk P 43 c43
 o46 : FOk P 46 c46
 o51 : FOk P 51 c51
 o52 : FOk P 52 c52
 o53 : FOk P 53 c53
 o54 : FOk P 54 c54
 o55 : FOk P 55 c55
 o56 : FOk P 56 c56
 o57 : FOk P 57 c57
 o58 : FOk P 58 c58
 o59 : FOk P 59 c59
 o62 : FOk P 62 c62
 o63 : FOk P 63 c63
 o3 : FOk P 3 c3
 aw : ∀ {la : CF Prop}, LastOk P la id → LastOk P (lastW 4 la) id
section
variable {P : Program} (k : Known P)
include k
theorem kb5 : LastOk P lb5 id := lb5_ok k.mix k.o62 k.o63 k.o53 k.o58 k.o54 k.o55 k.o39 k.o28 k.o46 k.o51 k.o52 k.o41 k.o56
theorem kfeed (W : Cli) (c : Cst) (b : List Nat) (hc : CstOk 8 c) (hb : ∀ x ∈ b, x < 256) (hl : c.inb.length + b.length < 1000000) : ConOk P 8 (feedK W c b (feedC 1032 c b)) :=
 feed_ok k.mix (kb5 k) k.o57 k.o42 k.o40 k.o35 k.o24 k.o21 k.o8 hc b hb hl
theorem kask (st : Bool) (s : AskS) (i : Nat) (a : Act) (h : AskOk s i) (hi : i < 8) (ha : ActOk a) (ht : a.tx.length ≤ 30000) : (askStep a s = s ∧ ∃ e, ConOk P 11 (askNo st s a e)) ∨ (askGood a ∧ ConOk P 11 (askYes st s a)) :=
 ask_con k.mix k.o21 k.o25 (r26_ok k.mix k.o43 k.o59 k.o26 la0_ok) k.o11 h hi ha ht
theorem kcf0 : CFOk P (callD pA tb8 la0 5) id := callD_sound (A := pA) pHolds k.mix (tb8_ok k.o21) la0_ok 5
theorem k12 (W : Cli) (ov : Bool) (inb : List Nat) (rv : V) (fl : Fl) : ConOk P 12 (kEnd W W ov inb rv .nilslice rv fl) := conOk_walk k.mix k.o12 (kcf0 k) (rp_c Ys.none W.nm W.ou inb W.st ov W.q rv (enF pF fl))
theorem k13 (W : Cli) (ov : Bool) (inb : List Nat) (fl : Fl) : ConOk P 13 (kEnd W ⟨W.nm, [], W.st, W.q, W.dt⟩ ov inb .nilslice .nilslice (.str W.ou) fl) := conOk_walk k.mix k.o13 (kcf0 k) (sy_c Ys.none W.nm W.ou inb W.st ov W.q .nilslice (enF pF fl))
theorem k14 (W : Cli) (ov : Bool) (inb : List Nat) (fl : Fl) : ConOk P 14 (kEnd W W ov inb .nilslice .nilslice (.bool true) fl) := conOk_walk k.mix k.o14 (kcf0 k) (rd_c Ys.none W.nm W.ou inb W.st ov W.q .nilslice (enF pF fl))
theorem k15 (W : Cli) (ov : Bool) (inb : List Nat) (fl : Fl) : ConOk P 15 (kEnd W W ov inb .nilslice .nilslice (.bool ov) fl) := conOk_walk k.mix k.o15 (kcf0 k) (ov_c Ys.none W.nm W.ou inb W.st ov W.q .nilslice (enF pF fl))
theorem k16 (W : Cli) (ov : Bool) (inb : List Nat) (fl : Fl) : ConOk P 16 (kEnd W W ov inb .nilslice .nilslice (.int .i64 ((fl.length : Nat) : Int)) fl) := by
 have h := conOk_walk (C := kEnd W W ov inb .nilslice .nilslice (.int .i64 (((enF pF fl).length : Nat) : Int)) fl) k.mix k.o16 (kcf0 k) (fl_c Ys.none W.nm W.ou inb W.st ov W.q .nilslice (enF pF fl))
 rw [enF_len] at h
 exact h
theorem kLA : LastOk P (LAw P) id :=
 k.aw (lastG_ok (callable_fok k.o5) (fun _ h => h) (r6_ok k.mix (lbS_ok k.mix k.o33 k.o20 k.o9 k.o10 k.o17 k.o19) k.o6 (lastG_ok (callable_fok k.o7) (fun _ h => h) (lastG_ok (callable_fok k.o8) (fun _ h => h) (r9_ok k.mix k.o9 (r10_ok k.mix k.o33 k.o20 k.o10 (lastG_ok (callable_fok k.o11) (fun _ h => h) (lastG_ok (callable_fok k.o12) (fun _ h => h) (lastG_ok (callable_fok k.o13) (fun _ h => h) (lastG_ok (callable_fok k.o14) (fun _ h => h) (lastG_ok (callable_fok k.o15) (fun _ h => h) (lastG_ok (callable_fok k.o16) (fun _ h => h) la0_ok))))))))))))
theorem kgr {oa ol op : AObj} {b : Nat} {acs : List Act} {v : V} {o : AObj} (hl : acs.length ≤ 9223372036854775807) (h : SlP b acs v o) (hg : (m3L oa ol op).get b = some o) (hs : (m3L oa ol op).set b o = m3L oa ol op) : CalOk (LAw P) (fn 5) [v] (m3L oa ol op) (.bool (grB acs)) (m3L oa ol op) :=
 have hcf := callD_sound (A := pA) pHolds k.mix tb0_ok la0_ok 5
 cal5 (fun ha hl => great_ok k.mix k.o5 ha hl) (conOk_walk k.mix k.o5 hcf (gr_n Ys.none)) (fun j => conOk_walk k.mix k.o5 hcf (gr_z Ys.none j)) hl h hg hs
end
theorem loadR : ∀ {r : Reps} {i : Nat}, i < r.length → ∃ e q d, loadV 3 (i * 3) (repV r) = some (.agg [.int .u32 e, .int .u64 q, .str d])
 | (e, q, d) :: l, 0, _ => ⟨_, _, _, rfl⟩
 | (e, q, d) :: l, i + 1, h => by
  obtain ⟨e', q', d', h2⟩ := loadR (r := l) (i := i) (by simpa using h)
  refine ⟨e', q', d', ?_⟩
  rw [← h2]
  unfold loadV
  rw [dropN_eq', dropN_eq', show (i + 1) * 3 = i * 3 + 3 by omega, show repV ((e, q, d) :: l) = .int .u32 _ :: .int .u64 _ :: .str d :: repV l from rfl, List.drop_succ_cons, List.drop_succ_cons, List.drop_succ_cons]
section
variable {P : Program} (k : Known P) {st : Bool} {acs ls : List Act} {bs : List Nat} {sa sl sp : V} {oa ol op : AObj} (hA : SlP 0 acs sa oa) (hL : SlP 1 ls sl ol) (hB : ByP 2 bs sp op)
 (ha : ∀ a ∈ acs, ActOk a) (hl : ∀ a ∈ ls, ActOk a) (hbs : ∀ b ∈ bs, b < 256)
abbrev cfL (P : Program) : Ys Prop → CF Prop := callD pA tb0 (LAw P) 5
abbrev wOf (ls : List Act) : List Nat := allB ls ls.length
abbrev tailA : ACode := .seq c3p13 (.seq c3p14 (.seq c3p15 (.seq c3p16 c3p17)))
abbrev tailB : ACode := .seq c3p11 (.seq c3p12 tailA)
abbrev tailC : ACode := .seq c3p9 (.seq c3p10 tailB)
abbrev tailD : ACode := .seq c3p3 (.seq c3p4 (.seq c3p5 (.seq c3p6 (.seq c3p7 (.seq c3p8 tailC)))))
abbrev KRet (K : Ex → Slots → Mem → Prop) : Prop := ∀ T' m', Slots.get T' s8 = .bool true → K .ret T' m'
include k
theorem law_A {W : Cli} {d1 d2 : Cst} (hs : SameC d1 d2) (h1 : CstOk 8 d1) (h2 : CstOk 8 d2) {w : List Nat} {T : Slots} (hT : allS T (slZ st sa sl sp w)) {K : Ex → Slots → Mem → Prop} (hK : KRet K) : codeD (cfL P) Ys.none 3 tailA T (hdP W oa ol op d1 d2) K := by
 obtain ⟨e1, e2, e3, _⟩ := hs
 have hf1 := h1.fl.key
 have hf2 := h2.fl.key
 have hcnt := h2.cnt
 obtain ⟨ov, inb, fl, r⟩ := d1
 obtain ⟨ov2, inb2, fl2, r2⟩ := d2
 simp only at e1 e2 e3 hcnt hf1 hf2
 subst e1; subst e2; subst e3
 have bR : ∀ p : Nat → Bool, p 2 = true → (rvR 2 r).bel p = true := fun p hp => by
  show (if r = [] then V.nilslice else _).bel p = true
  split
  ·rfl
  ·exact hp
 have bN : ∀ p : Nat → Bool, p 2 = true → V.nilslice.bel p = true := fun _ _ => rfl
 refine seqD (fun K' hK' => lpD _ (LAw P) (monoL P) oa ol op _ _ _ _ _ _ _ _ _ _ _ _ _ _ _ _ _ _ _ _ _ _ _ _ w st sa sl sp (rvR 23 r) (rvR 24 r) (up12 rfl rfl rfl rfl rfl rfl rfl rfl (end1 (v1' := .nilslice) hf1 bR bN bR (k12 k W ov inb (rvR 2 r) fl) fun σ hσ => ⟨rvR_ren hσ r, rfl, rvR_ren hσ r⟩)) (up12 rfl rfl rfl rfl rfl rfl rfl rfl (end2 (v1' := .nilslice) hf2 bR bN bR (k12 k W ov inb2 (rvR 2 r) fl) fun σ hσ => ⟨rvR_ren hσ r, rfl, rvR_ren hσ r⟩)) T hT K' hK') fun T1 hT1 => ?_
 have fin : ∀ T' : Slots, allS T' [(s11, .ptr 3 0), (s12, .ptr 5 0)] → codeD (cfL P) Ys.none 3 (.seq c3p16 c3p17) T' (mk25 oa ol op (clM W 4 ov inb .nilslice) (mpc W pA6 ⟨ov, inb, fl, r⟩) (clM W 6 ov inb2 .nilslice) (mpc W pA14 ⟨ov, inb2, fl, r⟩) (aF W fl) (aF W fl) (rC r) (rC r)) K := by
  intro T' hT'
  have bS : ∀ p : Nat → Bool, p 2 = true → (V.str W.ou).bel p = true := fun _ _ => rfl
  have bB : ∀ (b : Bool) (p : Nat → Bool), p 2 = true → (V.bool b).bel p = true := fun _ _ _ => rfl
  have bI : ∀ (n : Int) (p : Nat → Bool), p 2 = true → (V.int .i64 n).bel p = true := fun _ _ _ => rfl
  let W' : Cli := ⟨W.nm, [], W.st, W.q, W.dt⟩
  have c1 := fun {x2 y2 : AObj} => up12 (P := P) rfl rfl rfl rfl rfl rfl rfl rfl (cal_missG (n := 12) (S := ConOk P 12) rfl (end1 (X := lastG 14 (ConOk P 14) (lastG 15 (ConOk P 15) (lastG 16 (ConOk P 16) la0))) (oa := oa) (ol := ol) (op := op) (x2 := x2) (y2 := y2) (r23 := rC r) (r24 := rC r) (a := aF W fl) (dd := aF W fl) (v1 := .nilslice) (v1' := .nilslice) (va := .str W.ou) hf1 bN bN bS (k13 k W ov inb fl) fun σ hσ => ⟨rfl, rfl, rfl⟩))
  have c2 := fun {x1 y1 : AObj} => up12 (P := P) rfl rfl rfl rfl rfl rfl rfl rfl (cal_missG (n := 12) (S := ConOk P 12) rfl (end2 (X := lastG 14 (ConOk P 14) (lastG 15 (ConOk P 15) (lastG 16 (ConOk P 16) la0))) (oa := oa) (ol := ol) (op := op) (x1 := x1) (y1 := y1) (r23 := rC r) (r24 := rC r) (a := aF W fl) (dd := aF W fl) (v1 := .nilslice) (v1' := .nilslice) (va := .str W.ou) hf1 bN bN bS (k13 k W ov inb2 fl) fun σ hσ => ⟨rfl, rfl, rfl⟩))
  have c3 := fun {x2 y2 : AObj} => up12 (P := P) rfl rfl rfl rfl rfl rfl rfl rfl (cal_missG (n := 12) (S := ConOk P 12) rfl (cal_missG (n := 13) (S := ConOk P 13) rfl (end1 (X := lastG 15 (ConOk P 15) (lastG 16 (ConOk P 16) la0)) (oa := oa) (ol := ol) (op := op) (x2 := x2) (y2 := y2) (r23 := rC r) (r24 := rC r) (a := aF W fl) (dd := aF W fl) (v1 := .nilslice) (v1' := .nilslice) (va := .bool true) hf1 bN bN (bB true) (k14 k W' ov inb fl) fun σ hσ => ⟨rfl, rfl, rfl⟩)))
  have c4 := fun {x1 y1 : AObj} => up12 (P := P) rfl rfl rfl rfl rfl rfl rfl rfl (cal_missG (n := 12) (S := ConOk P 12) rfl (cal_missG (n := 13) (S := ConOk P 13) rfl (end2 (X := lastG 15 (ConOk P 15) (lastG 16 (ConOk P 16) la0)) (oa := oa) (ol := ol) (op := op) (x1 := x1) (y1 := y1) (r23 := rC r) (r24 := rC r) (a := aF W fl) (dd := aF W fl) (v1 := .nilslice) (v1' := .nilslice) (va := .bool true) hf1 bN bN (bB true) (k14 k W' ov inb2 fl) fun σ hσ => ⟨rfl, rfl, rfl⟩)))
  have c5 := fun {x2 y2 : AObj} => up12 (P := P) rfl rfl rfl rfl rfl rfl rfl rfl (cal_missG (n := 12) (S := ConOk P 12) rfl (cal_missG (n := 13) (S := ConOk P 13) rfl (cal_missG (n := 14) (S := ConOk P 14) rfl (end1 (X := lastG 16 (ConOk P 16) la0) (oa := oa) (ol := ol) (op := op) (x2 := x2) (y2 := y2) (r23 := rC r) (r24 := rC r) (a := aF W fl) (dd := aF W fl) (v1 := .nilslice) (v1' := .nilslice) (va := .bool ov) hf1 bN bN (bB ov) (k15 k W' ov inb fl) fun σ hσ => ⟨rfl, rfl, rfl⟩))))
  have c6 := fun {x1 y1 : AObj} => up12 (P := P) rfl rfl rfl rfl rfl rfl rfl rfl (cal_missG (n := 12) (S := ConOk P 12) rfl (cal_missG (n := 13) (S := ConOk P 13) rfl (cal_missG (n := 14) (S := ConOk P 14) rfl (end2 (X := lastG 16 (ConOk P 16) la0) (oa := oa) (ol := ol) (op := op) (x1 := x1) (y1 := y1) (r23 := rC r) (r24 := rC r) (a := aF W fl) (dd := aF W fl) (v1 := .nilslice) (v1' := .nilslice) (va := .bool ov) hf1 bN bN (bB ov) (k15 k W' ov inb2 fl) fun σ hσ => ⟨rfl, rfl, rfl⟩))))
  have c7 := fun {x2 y2 : AObj} => up12 (P := P) rfl rfl rfl rfl rfl rfl rfl rfl (cal_missG (n := 12) (S := ConOk P 12) rfl (cal_missG (n := 13) (S := ConOk P 13) rfl (cal_missG (n := 14) (S := ConOk P 14) rfl (cal_missG (n := 15) (S := ConOk P 15) rfl (end1 (X := la0) (oa := oa) (ol := ol) (op := op) (x2 := x2) (y2 := y2) (r23 := rC r) (r24 := rC r) (a := aF W fl) (dd := aF W fl) (v1 := .nilslice) (v1' := .nilslice) (va := .int .i64 ((fl.length : Nat) : Int)) hf1 bN bN (bI _) (k16 k W' ov inb fl) fun σ hσ => ⟨rfl, rfl, rfl⟩)))))
  have c8 := fun {x1 y1 : AObj} => up12 (P := P) rfl rfl rfl rfl rfl rfl rfl rfl (cal_missG (n := 12) (S := ConOk P 12) rfl (cal_missG (n := 13) (S := ConOk P 13) rfl (cal_missG (n := 14) (S := ConOk P 14) rfl (cal_missG (n := 15) (S := ConOk P 15) rfl (end2 (X := la0) (oa := oa) (ol := ol) (op := op) (x1 := x1) (y1 := y1) (r23 := rC r) (r24 := rC r) (a := aF W fl) (dd := aF W fl) (v1 := .nilslice) (v1' := .nilslice) (va := .int .i64 ((fl.length : Nat) : Int)) hf1 bN bN (bI _) (k16 k W' ov inb2 fl) fun σ hσ => ⟨rfl, rfl, rfl⟩)))))
  have hfl8 : fl.length ≤ 100 := by omega
  refine seqD (l1 := [(s8, .bool true)]) (M1 := mk25 oa ol op (clM W' 4 ov inb .nilslice) (mpc W pA6 ⟨ov, inb, fl, r⟩) (clM W' 6 ov inb2 .nilslice) (mpc W pA14 ⟨ov, inb2, fl, r⟩) (aF W fl) (aF W fl) (rC r) (rC r)) (fun K' hK' => ?_) fun T2 hT2 => ?_
  ·cases ov with
   | true => exact lpGt _ (LAw P) (monoL P) oa ol op _ _ _ _ _ _ _ _ _ _ _ _ _ _ _ _ _ _ _ _ _ _ _ _ w st sa sl sp .nilslice .nilslice W.ou fl.length c1 c2 c3 c4 c5 c6 c7 c8 (beqL_self _) hfl8 T' hT' K' hK'
   | false => exact lpGf _ (LAw P) (monoL P) oa ol op _ _ _ _ _ _ _ _ _ _ _ _ _ _ _ _ _ _ _ _ _ _ _ _ w st sa sl sp .nilslice .nilslice W.ou fl.length c1 c2 c3 c4 c5 c6 c7 c8 (beqL_self _) hfl8 T' hT' K' hK'
  ·exact hK T2 _ hT2.1
 by_cases hr : r = []
 ·subst hr
  refine seqD (fun K' hK' => lpEn _ (LAw P) (monoL P) oa ol op _ _ _ _ .dead .dead _ _ _ _ _ _ _ _ _ _ _ _ _ _ _ _ _ _ w st sa sl sp .nilslice .nilslice T1 hT1 K' hK') fun T2 hT2 => ?_
  refine seqD (fun K' hK' => piece_loop (l0 := [(s11, .ptr 3 0), (s12, .ptr 5 0), (s25, .nilslice), (s26, .nilslice)]) (l1 := [(s11, .ptr 3 0), (s12, .ptr 5 0), (s25, .nilslice), (s26, .nilslice)]) rfl hT2 (loop2 (cfy := cfL P) (b := c3l4) (x := 8) 0 (Nat.lt_of_lt_of_le (rounds_big (n := 0) (by decide)) (Nat.sub_le _ _)) (fun _ => mk25 oa ol op (clM W 4 ov inb .nilslice) (mpc W pA6 ⟨ov, inb, fl, []⟩) (clM W 6 ov inb2 .nilslice) (mpc W pA14 ⟨ov, inb2, fl, []⟩) (aF W fl) (aF W fl) (rC []) (rC []))
   (fun i => [(s11, .ptr 3 0), (s12, .ptr 5 0), (s25, .nilslice), (s26, .nilslice), (s27, .int .i64 ((i : Nat) : Int))]) (fun Y i T hi _ K _ => absurd hi (Nat.not_lt_zero _)) (fun Y T hT K hK => cm_n Y (LAw P) (monoL P) oa ol op _ _ _ _ .dead .dead _ _ _ _ _ _ _ _ _ _ _ _ _ _ _ _ _ _ w st sa sl sp .nilslice .nilslice T hT K hK)) hK') fun T3 hT3 => fin T3 ⟨hT3.1, hT3.2.1, trivial⟩
 ·have e23 : rvR 23 r = .slice 23 0 r.length r.length 3 := if_neg hr
  have e24 : rvR 24 r = .slice 24 0 r.length r.length 3 := if_neg hr
  have er : rC r = .cells (repV r) false := if_neg hr
  rw [e23, e24] at hT1
  rw [er] at fin ⊢
  have hrl : r.length ≤ 1000 := by omega
  refine seqD (fun K' hK' => lpEs _ (LAw P) (monoL P) oa ol op _ _ _ _ .dead .dead _ _ _ _ _ _ _ _ _ _ _ _ _ _ _ _ _ _ w st sa sl sp .nilslice .nilslice r.length hrl T1 hT1 K' hK') fun T2 hT2 => ?_
  refine seqD (fun K' hK' => piece_loop (l0 := [(s11, .ptr 3 0), (s12, .ptr 5 0), (s25, .slice 23 0 r.length r.length 3), (s26, .slice 24 0 r.length r.length 3)]) (l1 := [(s11, .ptr 3 0), (s12, .ptr 5 0), (s25, .slice 23 0 r.length r.length 3), (s26, .slice 24 0 r.length r.length 3)]) rfl hT2 (loop2 (cfy := cfL P) (b := c3l4) (x := 8) r.length (Nat.lt_of_lt_of_le (rounds_big (n := r.length) (by omega)) (Nat.sub_le _ _)) (fun _ => mk25 oa ol op (clM W 4 ov inb .nilslice) (mpc W pA6 ⟨ov, inb, fl, r⟩) (clM W 6 ov inb2 .nilslice) (mpc W pA14 ⟨ov, inb2, fl, r⟩) (aF W fl) (aF W fl) (.cells (repV r) false) (.cells (repV r) false))
   (fun i => [(s11, .ptr 3 0), (s12, .ptr 5 0), (s25, .slice 23 0 r.length r.length 3), (s26, .slice 24 0 r.length r.length 3), (s27, .int .i64 ((i : Nat) : Int))]) (fun Y i T hi hT K hK => by
    obtain ⟨e, q, d, hx⟩ := loadR hi
    exact cm_s Y (LAw P) (monoL P) oa ol op _ _ _ _ .dead .dead _ _ _ _ _ _ _ _ _ _ _ _ _ _ _ _ w st sa sl sp (repV r) r.length i hrl hi e q d hx T hT K hK) (fun Y T hT K hK => cm_e Y (LAw P) (monoL P) oa ol op _ _ _ _ .dead .dead _ _ _ _ _ _ _ _ _ _ _ _ _ _ _ _ w st sa sl sp (repV r) r.length hrl T hT K hK)) hK') fun T3 hT3 => fin T3 ⟨hT3.1, hT3.2.1, trivial⟩
end
theorem settled0 (fl : Fl) : Settled 1032 ⟨false, [], fl, []⟩ := .inr (if_pos (show (0 : Nat) < 4 by decide))
section
variable {P : Program} (k : Known P) {st : Bool} {acs ls : List Act} {bs : List Nat} {sa sl sp : V} {oa ol op : AObj} (hA : SlP 0 acs sa oa) (hL : SlP 1 ls sl ol) (hB : ByP 2 bs sp op)
 (ha : ∀ a ∈ acs, ActOk a) (hl : ∀ a ∈ ls, ActOk a) (hbs : ∀ b ∈ bs, b < 256)
include k hA hL hB hbs
theorem law_B (hbl : bs.length ≤ 200) {W : Cli} {c0 : Cst} {w : List Nat} (hw : ∀ b ∈ w, b < 256) (hwl : w.length ≤ 100000) (hc0 : CstOk 8 c0) (hi0 : c0.inb = []) (hs0 : Settled 1032 c0) (hr0 : c0.rep = [])
  {T : Slots} (hT : allS T (slZ st sa sl sp w)) {K : Ex → Slots → Mem → Prop} (hK : KRet K) :
  ((feedC 1032 c0 w).rep = [] → codeD (cfL P) Ys.none 3 tailB T (mk23 oa ol op (clc W 4 23 (feedC 1032 c0 w)) (mpc W pA6 (feedC 1032 c0 w)) (clc W 6 24 c0) (mpc W pA14 c0) (aF W (feedC 1032 c0 w).fl) (aF W c0.fl)) K) ∧
  codeD (cfL P) Ys.none 3 tailB T (mk24 oa ol op (clc W 4 23 (feedC 1032 c0 w)) (mpc W pA6 (feedC 1032 c0 w)) (clc W 6 24 c0) (mpc W pA14 c0) (aF W (feedC 1032 c0 w).fl) (aF W c0.fl) (rC (feedC 1032 c0 w).rep)) K := by
 have h0 := hA.low
 have h1 := hL.low
 have h2 := hB.low
 have v0 := hA.lowV (.inl rfl)
 have v1 := hL.lowV (.inr (.inl rfl))
 have v2 := hB.lowV (.inr (.inr rfl))
 obtain ⟨hd1, _, _, _⟩ := feed_cst hc0 hw
 have hsame : ∀ R, apS w bs R = w.length → SameC (feedC 1032 c0 w) (cS w bs c0 R) := fun R hR => cS_same hs0 hR
 have hcS := fun R => (cS_ok (bs := bs) hw hc0 hi0 R).1
 generalize feedC 1032 c0 w = d1 at hd1 hsame ⊢
 constructor
 ·intro hr1
  obtain ⟨R, hR, hlp⟩ := piece_loopD (P := P) (st := st) (sa := sa) (sl := sl) h0 h1 h2 v0 v1 v2 (kfeed k W) hB hbs hbl hw hwl hd1.fl.key hc0 hi0 (start_s (W := W) h0 h1 h2 hd1.fl.key hc0.fl.key hr0 hr1) rfl rfl rfl
  refine seqD (fun K' hK' => lpB _ (LAw P) (monoL P) oa ol op _ _ _ _ .dead .dead .dead .dead .dead _ _ _ _ _ _ _ _ _ _ _ _ _ _ _ _ .dead .dead .dead .dead .dead .dead .dead .dead w st sa sl sp T hT K' hK') fun T1 hT1 => ?_
  refine seqDD (fun K' hK' => lpCs _ (LAw P) (monoL P) oa ol op _ _ _ _ _ _ .dead _ _ _ _ _ _ _ _ _ _ _ _ _ _ _ _ _ _ _ _ _ _ _ _ _ _ w st sa sl sp hlp T1 hT1 K' hK') fun T2 hT2 => ?_
  exact law_A k (hsame R hR) hd1 (hcS R) hT2 hK
 ·obtain ⟨R, hR, hlp⟩ := piece_loopD (P := P) (st := st) (sa := sa) (sl := sl) h0 h1 h2 v0 v1 v2 (kfeed k W) hB hbs hbl hw hwl hd1.fl.key hc0 hi0 (start_n (W := W) h0 h1 h2 hd1.fl.key hc0.fl.key hr0) rfl rfl rfl
  refine seqD (fun K' hK' => lpBn _ (LAw P) (monoL P) oa ol op _ _ _ _ .dead .dead _ .dead .dead _ _ _ _ _ _ _ _ _ _ _ _ _ _ _ _ .dead .dead .dead .dead .dead .dead .dead .dead w st sa sl sp T hT K' hK') fun T1 hT1 => ?_
  refine seqDD (fun K' hK' => lpCn _ (LAw P) (monoL P) oa ol op _ _ _ _ _ _ _ _ _ _ _ _ _ _ _ _ _ _ _ _ _ _ _ _ _ _ _ _ _ _ _ _ _ w st sa sl sp hlp T1 hT1 K' hK') fun T2 hT2 => ?_
  exact law_A k (hsame R hR) hd1 (hcS R) hT2 hK
include ha
theorem law_C (hal : acs.length ≤ 100) (hat : ∀ a ∈ acs, a.tx.length ≤ 30000) (hbl : bs.length ≤ 200) {w : List Nat} (hw : ∀ b ∈ w, b < 256) (hwl : w.length ≤ 100000) {x7 : AObj}
  {T : Slots} (hT : allS T (slZ st sa sl sp w)) {K : Ex → Slots → Mem → Prop} (hK : KRet K) : codeD (cfL P) Ys.none 3 tailC T (memL 8 [(0, oa), (1, ol), (2, op), (3, preM 4 st 58), (4, mp0), (5, preM 6 st 58), (6, mp0), (7, x7)]) K := by
 have h0 := hA.low
 have h1 := hL.low
 have h2 := hB.low
 have v0 := hA.lowV (.inl rfl)
 have v1 := hL.lowV (.inr (.inl rfl))
 have v2 := hB.lowV (.inr (.inr rfl))
 have hs := askSt_ok (st := st) ha hat (min acs.length 8) (by omega)
 have hlp := ask_loop (P := P) (st := st) (w := w) h0 h1 h2 v0 v1 v2 (kask k st) hA ha hal hat (x7 := x7)
 generalize askSt st acs (min acs.length 8) = s at hs hlp
 have hq : s.q ≤ 8 := by have := hs.q; omega
 refine seqDD (fun K' hK' => lp9 _ (LAw P) (monoL P) oa _ _ _ _ _ ol op _ _ _ _ .dead .dead .dead .dead _ _ _ _ _ _ _ _ _ _ _ _ _ _ _ _ w st sl sp [] 0 0 sa hlp T hT K' hK') fun T1 hT1 => ?_
 let W : Cli := cliS st s
 let c0 : Cst := ⟨false, [], s.fl, []⟩
 have hc0 : CstOk 8 c0 := ⟨⟨hs.fl.nd, fun x hx => by have := hs.fl.key x hx; omega, hs.fl.fly⟩, fun _ h => (nomatch h), (by show 0 + s.fl.length ≤ 8; rw [hs.len]; omega), fun h => (nomatch h)⟩
 have hcon := kfeed k W c0 w hc0 hw (by show 0 + w.length < _; omega)
 obtain ⟨hd1, hn, _, _⟩ := feed_cst hc0 hw
 have hB2 := fun {T : Slots} (hT : allS T (slZ st sa sl sp w)) => law_B k hA hL hB hbs (st := st) hbl (W := W) hw hwl hc0 rfl (settled0 _) rfl hT hK
 unfold feedK at hcon
 by_cases hr : (feedC 1032 c0 w).rep.length = c0.rep.length
 ·rw [if_pos hr] at hcon
  have hr1 : (feedC 1032 c0 w).rep = [] := List.length_eq_zero_iff.1 hr
  refine seqD (fun K' hK' => lpAs _ (LAw P) (monoL P) oa ol op _ _ _ _ _ _ .dead _ _ _ _ _ _ _ _ _ _ _ _ _ _ _ _ _ _ _ _ _ _ _ _ w st sa sl sp (cal8_1s (P := P) (oa := oa) (ol := ol) (op := op) (x2 := clc W 6 24 c0) (y2 := mpc W pA14 c0) (dd := aF W c0.fl) hc0.fl.key hd1.fl.key hn rfl hr hcon) T1 hT1 K' hK') fun T2 hT2 => ?_
  exact (hB2 hT2).1 hr1
 ·rw [if_neg hr] at hcon
  have hne : (feedC 1032 c0 w).rep ≠ [] := fun h => hr (by rw [h])
  have hcal := cal8_1n (P := P) (oa := oa) (ol := ol) (op := op) (x2 := clc W 6 24 c0) (y2 := mpc W pA14 c0) (dd := aF W c0.fl) hc0.fl.key hd1.fl.key hn rfl hcon
  rw [show AObj.cells (repV (feedC 1032 c0 w).rep) false = rC (feedC 1032 c0 w).rep from (if_neg hne).symm] at hcal
  refine seqD (fun K' hK' => lpAn _ (LAw P) (monoL P) oa ol op _ _ _ _ _ _ _ _ _ _ _ _ _ _ _ _ _ _ _ _ _ _ _ _ _ _ _ _ _ _ _ w st sa sl sp hcal T1 hT1 K' hK') fun T2 hT2 => ?_
  exact (hB2 hT2).2
include hl
theorem law_D (hal : acs.length ≤ 100) (hat : ∀ a ∈ acs, a.tx.length ≤ 30000) (hbl : bs.length ≤ 200) (hll : ls.length ≤ 100) (hlg : gsum ls ls.length ≤ 30000)
  {T : Slots} (hT : allS T (slI st sa sl sp)) {K : Ex → Slots → Mem → Prop} (hK : KRet K) : codeD (cfL P) Ys.none 3 tailD T (m3L oa ol op) K := by
 have h0 := hA.low
 have h1 := hL.low
 have h2 := hB.low
 have v0 := hA.lowV (.inl rfl)
 have v1 := hL.lowV (.inr (.inl rfl))
 have v2 := hB.lowV (.inr (.inr rfl))
 have hwl := all_len ls (tx_le hlg) ls.length (Nat.le_refl _)
 have hw := all_lt hl ls.length
 refine seqD (fun K' hK' => lp3 _ (LAw P) (monoL P) oa ol op st sa sl sp T hT K' hK') fun T1 hT1 => ?_
 refine seqD (l1 := slI9 st sa sl sp (wOf ls)) (M1 := m3L oa ol op) (fun K' hK' => piece_loop (l0 := slI9 st sa sl sp []) rfl hT1 (all_loop (P := P) (oa := oa) (op := op) (st := st) (sa := sa) (sp := sp) hL hl hll hlg) fun T' h => hK' T' ⟨h.1, h.2.1, h.2.2.1, h.2.2.2.1, h.2.2.2.2.1, trivial⟩) fun T2 hT2 => ?_
 refine seqD (fun K' hK' => lp5 _ (LAw P) (monoL P) oa ol op _ _ .dead .dead (wOf ls) st sa sl sp (c7a (new_ok k.mix k.ft k.o7 st)) T2 hT2 K' hK') fun T3 hT3 => ?_
 refine seqD (fun K' hK' => lp6 _ (LAw P) (monoL P) oa ol op _ _ _ _ (wOf ls) st sa sl sp (c7b (new_ok k.mix k.ft k.o7 st)) T3 hT3 K' hK') fun T4 hT4 => ?_
 have hc1 : binV .add (.str greB) (.str (opB 8 1 [])) = some (.str (greB ++ opB 8 1 [])) := addS (by rw [opB_len]; decide)
 have hc2 : binV .add (.str (greB ++ opB 8 1 [])) (.str (opB 7 1 [])) = some (.str byL) := addS (by rw [List.length_append, opB_len, opB_len]; decide)
 refine seqD (fun K' hK' => lp7 _ (LAw P) (monoL P) oa ol op _ _ _ _ (wOf ls) _ _ st sa sl sp (opB 8 1 []) (opB 7 1 []) (greB ++ opB 8 1 []) byL k9 (k10 8 1 (by decide) (by decide)) (k10 7 1 (by decide) (by decide)) hc1 hc2 (c8a (all_ok k.mix k.ft k.o8 st)) T4 hT4 K' hK') fun T5 hT5 => ?_
 have hbl := byte_loop (P := P) (st := st) (w := wOf ls) h0 h1 h2 v0 v1 v2 fun i hi => byte_ok k.mix k.ft k.o8 st hi
 refine seqDD (fun K' hK' => lp8 _ (LAw P) (monoL P) oa ol op _ _ _ _ (wOf ls) _ _ _ st sa sl sp (opB 8 1 []) (opB 7 1 []) (greB ++ opB 8 1 []) byL k9 (k10 8 1 (by decide) (by decide)) (k10 7 1 (by decide) (by decide)) hc1 hc2 0 (by rw [← byL_len] at hbl; exact hbl) T5 hT5 K' hK') fun T6 hT6 => ?_
 exact law_C k hA hL hB ha hbs hal hat (by assumption) hw (by show (allB ls ls.length).length ≤ _; omega) hT6 hK
theorem law_con (h1 : acs.length ≤ 9223372036854775807) (h2 : ls.length ≤ 9223372036854775807) : ConOk P 3 ⟨[.bool st, sa, sl, sp], [oa, ol, op], .bool true, [], []⟩ := by
 refine conOk_walkD k.mix k.o3 (callD_sound (A := pA) pHolds k.mix tb0_ok (kLA k) 5) ?_
 show body1D (cfL P) Ys.none c3 [.bool st, sa, sl, sp] (memO [oa, ol, op]) (endC _)
 rw [c3_eq]
 refine body_retD (v := .bool true) rfl (fun K hK => ?_) (fun mm => ⟨rfl, trivial, trivial⟩)
 have hT0 : allS (fillS 0 [.bool st, sa, sl, sp] slots0) (slI st sa sl sp) := ⟨rfl, rfl, rfl, rfl, trivial⟩
 generalize fillS 0 [.bool st, sa, sl, sp] slots0 = T at hT0
 show codeD (cfL P) Ys.none 3 (.seq c3p0 (.seq c3p1 (.seq c3p2 tailD))) T (m3L oa ol op) K
 refine seqD (fun K' hK' => lp0 _ (LAw P) (monoL P) oa ol op st sa sl sp T hT0 K' hK') fun T1 hT1 => ?_
 refine seqD (fun K' hK' => lp1 _ (LAw P) (monoL P) oa ol op st sa sl sp cal_W T1 hT1 K' hK') fun T2 hT2 => ?_
 have g1 := kgr k (oa := oa) (ol := ol) (op := op) h1 hA rfl rfl
 have g2 := kgr k (oa := oa) (ol := ol) (op := op) h2 hL rfl rfl
 cases e1 : grB acs with
 | true =>
  rw [e1] at g1
  exact seqRD (fun K' hK' => lr2a _ (LAw P) (monoL P) oa ol op st sa sl sp g1 T2 hT2 K' hK') hK
 | false =>
  rw [e1] at g1
  cases e2 : grB ls with
  | true =>
   rw [e2] at g2
   exact seqRD (fun K' hK' => lr2b _ (LAw P) (monoL P) oa ol op st sa sl sp g1 g2 T2 hT2 K' hK') hK
  | false =>
   rw [e2] at g2
   obtain ⟨a1, a2⟩ := great_no e1
   obtain ⟨l1, l2⟩ := great_no e2
   have hat := tx_le a2
   by_cases hb2 : bs.length ≤ 200
   ·have go : ∀ T3 : Slots, allS T3 (slI st sa sl sp) → codeD (cfL P) Ys.none 3 tailD T3 (m3L oa ol op) K := fun T3 hT3 => law_D k hA hL hB ha hl hbs a1 hat hb2 l1 l2 hT3 hK
    cases hB with
    | nil h => exact seqD (fun K' hK' => lp2n _ (LAw P) (monoL P) oa ol .dead st sa sl g1 g2 T2 hT2 K' hK') go
    | zero j h => exact seqD (fun K' hK' => lp2s _ (LAw P) (monoL P) oa ol .dead st sa sl g1 g2 0 j (by decide) T2 hT2 K' hK') go
    | some h => exact seqD (fun K' hK' => lp2s _ (LAw P) (monoL P) oa ol _ st sa sl g1 g2 bs.length bs.length hb2 T2 hT2 K' hK') go
   ·cases hB with
    | nil h => subst h; exact absurd (Nat.zero_le _) hb2
    | zero j h => subst h; exact absurd (Nat.zero_le _) hb2
    | some h => exact seqRD (fun K' hK' => lr2c _ (LAw P) (monoL P) oa ol _ st sa sl g1 g2 bs.length bs.length (by omega) T2 hT2 K' hK') hK
end
instance : Inhabited Act := ⟨⟨0, 0, 0, 0, 0, 0, 0, 0, 0, []⟩⟩
abbrev actK : List CK := [.int .i64, .int .u32, .int .u32, .int .u32, .int .u32, .int .u16, .int .u64, .int .u64, .str, .int .i64]
abbrev u8K : List CK := [.int .u8]
def AllR (v : V) (v' : Value) : Prop := ∀ ρ : Ren, VR ρ v v'
theorem int_nat {k : IntKind} (hk : k.signed = false) {n : Int} (h : (Lit.int k n).wf = true) : ∃ m : Nat, n = (m : Int) ∧ (m : Int) ≤ k.max := by
 simp only [Lit.wf, Bool.and_eq_true, decide_eq_true_eq] at h
 have h0 : 0 ≤ n := by
  have h1 := h.1
  have : k.min = 0 := by cases k <;> first | rfl | cases hk
  omega
 obtain ⟨m, rfl⟩ := Int.eq_ofNat_of_zero_le h0
 exact ⟨m, rfl, h.2⟩
structure ParR (w : World) (b : Nat) (va : V) (o : AObj) (v' : Value) where
 r : Option Img
 lt : ∀ i, r = some i → i.b < w.heap.size
 obj : ∀ i ρ, r = some i → OR ρ w i o
 val : ∀ ρ : Ren, ρ b = r → VR ρ va v'
theorem flat_at {acs : List Act} {x : Nat} {v : V} (h : (acs.flatMap actV)[x]? = some v) : ∃ i j, i < acs.length ∧ j < 10 ∧ x = i * 10 + j ∧ (actV (acs.getD i default))[j]? = some v := by
 induction acs generalizing x with
 | nil => simp at h
 | cons a acs ih =>
  rw [List.flatMap_cons] at h
  by_cases hx : x < 10
  ·rw [List.getElem?_append_left (by exact hx)] at h
   exact ⟨0, x, by simp, hx, by omega, h⟩
  ·rw [List.getElem?_append_right (by show 10 ≤ x; omega)] at h
   obtain ⟨i, j, h1, h2, h3, h4⟩ := ih h
   have h3 : x - 10 = i * 10 + j := h3
   exact ⟨i + 1, j, by simpa using h1, h2, by omega, h4⟩
theorem par_act {w : World} {v' : Value} (h : IsSliceK w actK v') (b : Nat) : ∃ (acs : List Act) (va : V) (o : AObj), SlP b acs va o ∧ (∀ a ∈ acs, ActOk a) ∧ acs.length ≤ 9223372036854775807 ∧ Nonempty (ParR w b va o v') := by
 rcases h with rfl | ⟨bb, off, len, cap, c, ty, lo, hi, rfl, h1, h2, h3, h4, h5⟩
 ·exact ⟨[], .nilslice, .dead, .nil rfl, (fun _ h => nomatch h), Nat.zero_le _, ⟨⟨none, (fun _ h => nomatch h), (fun _ _ h => nomatch h), fun _ _ => .nilslice⟩⟩⟩
 ·have hb := (Array.getElem?_eq_some_iff.1 h3).1
  by_cases h0 : len = 0
  ·subst h0
   exact ⟨[], .slice b 0 0 cap 10, .dead, .zero cap rfl, (fun _ h => nomatch h), Nat.zero_le _, ⟨⟨some ⟨bb, off + cap * 10, off, none⟩, fun i h => (by cases h; exact hb), fun i ρ h => trivial, fun ρ hρ => .slice (i := ⟨bb, off + cap * 10, off, none⟩) hρ (Nat.zero_le _) (Nat.le_refl _) (fun _ => by simp) (Nat.le_refl _)⟩⟩⟩
  ·have hact : ∀ i, i < len → ∃ a : Act, ActOk a ∧ ∀ j v, (actV a)[j]? = some v → ∃ q, c[i * 10 + j + off]? = some q ∧ AllR v q := by
    intro i hi
    have g := fun j k hj => h5 i j k hi hj
    obtain ⟨_, q0, n0, rfl, _⟩ := g 0 _ rfl
    obtain ⟨_, q1, n1, rfl, w1⟩ := g 1 _ rfl
    obtain ⟨_, q2, n2, rfl, w2⟩ := g 2 _ rfl
    obtain ⟨_, q3, n3, rfl, w3⟩ := g 3 _ rfl
    obtain ⟨_, q4, n4, rfl, w4⟩ := g 4 _ rfl
    obtain ⟨_, q5, n5, rfl, w5⟩ := g 5 _ rfl
    obtain ⟨_, q6, n6, rfl, w6⟩ := g 6 _ rfl
    obtain ⟨_, q7, n7, rfl, w7⟩ := g 7 _ rfl
    obtain ⟨_, q8, s8', rfl, _⟩ := g 8 _ rfl
    obtain ⟨_, q9, n9, rfl, _⟩ := g 9 _ rfl
    obtain ⟨m1, rfl, u1⟩ := int_nat rfl w1
    obtain ⟨m2, rfl, u2⟩ := int_nat rfl w2
    obtain ⟨m3, rfl, u3⟩ := int_nat rfl w3
    obtain ⟨m4, rfl, u4⟩ := int_nat rfl w4
    obtain ⟨m5, rfl, u5⟩ := int_nat rfl w5
    obtain ⟨m6, rfl, u6⟩ := int_nat rfl w6
    obtain ⟨m7, rfl, u7⟩ := int_nat rfl w7
    refine ⟨⟨n0, n9, m1, m2, m3, m4, m5, m6, m7, bytesOf s8'⟩, ⟨?_, ?_, ?_, ?_, ?_, ?_, ?_, bytesOf_lt s8'⟩, fun j v hj => ?_⟩
    ·have : (m1 : Int) ≤ 4294967295 := u1
     show m1 < _; omega
    ·have : (m2 : Int) ≤ 4294967295 := u2
     show m2 < _; omega
    ·have : (m3 : Int) ≤ 4294967295 := u3
     show m3 < _; omega
    ·have : (m4 : Int) ≤ 4294967295 := u4
     show m4 < _; omega
    ·have : (m5 : Int) ≤ 65535 := u5
     show m5 < _; omega
    ·have : (m6 : Int) ≤ 18446744073709551615 := u6
     show m6 < _; omega
    ·have : (m7 : Int) ≤ 18446744073709551615 := u7
     show m7 < _; omega
    ·match j, hj with
     | 0, hj => cases hj; exact ⟨_, q0, fun _ => .int _ _⟩
     | 1, hj => cases hj; exact ⟨_, q1, fun _ => .int _ _⟩
     | 2, hj => cases hj; exact ⟨_, q2, fun _ => .int _ _⟩
     | 3, hj => cases hj; exact ⟨_, q3, fun _ => .int _ _⟩
     | 4, hj => cases hj; exact ⟨_, q4, fun _ => .int _ _⟩
     | 5, hj => cases hj; exact ⟨_, q5, fun _ => .int _ _⟩
     | 6, hj => cases hj; exact ⟨_, q6, fun _ => .int _ _⟩
     | 7, hj => cases hj; exact ⟨_, q7, fun _ => .int _ _⟩
     | 8, hj => cases hj; exact ⟨_, q8, fun _ => .str _⟩
     | 9, hj => cases hj; exact ⟨_, q9, fun _ => .int _ _⟩
     | n + 10, hj => simp at hj
   obtain ⟨acs, z1, z2⟩ := list_ofT len hact
   have h7 := h4 (Nat.mul_pos (by omega) (by decide))
   have h7 : off + cap * 10 ≤ c.size := h7
   subst z1
   have hne : acs ≠ [] := fun e => h0 (by rw [e]; rfl)
   refine ⟨acs, .slice b 0 acs.length acs.length 10, .cells (acs.flatMap actV) true, .some hne, fun a ha => ?_, by unfold maxLen at h2; omega, ⟨⟨some ⟨bb, c.size, off, none⟩, fun i h => (by cases h; exact hb), fun i ρ h => ?_, fun ρ hρ => .slice (i := ⟨bb, c.size, off, none⟩) hρ (Nat.le_refl _) h1 (fun _ => by simp) h7⟩⟩⟩
   ·obtain ⟨i, hi, rfl⟩ := List.getElem_of_mem ha
    have := (z2 i hi).1
    rwa [List.getD_eq_getElem?_getD, List.getElem?_eq_getElem hi] at this
   ·cases h
    refine ⟨c, ty, lo, hi, h3, rfl, fun x v hx => ?_, fun h => nomatch h⟩
    obtain ⟨i, j, g1, g2, rfl, g4⟩ := flat_at hx
    obtain ⟨q, e1, e2⟩ := (z2 i g1).2 j v g4
    exact ⟨q, e1, e2 ρ⟩
theorem vB_at {bs : List Nat} {x : Nat} {v : V} (h : (vBytes bs)[x]? = some v) : x < bs.length ∧ v = .int .u8 ((bs.getD x 0 : Nat) : Int) := by
 induction bs generalizing x with
 | nil => simp [vBytes] at h
 | cons b bs ih =>
  cases x with
  | zero => simp [vBytes] at h; exact ⟨by simp, h.symm⟩
  | succ x =>
   obtain ⟨h1, h2⟩ := ih (x := x) (by simpa [vBytes] using h)
   exact ⟨by simpa using h1, h2⟩
theorem par_bytes {w : World} {v' : Value} (h : IsSliceK w u8K v') (b : Nat) : ∃ (bs : List Nat) (va : V) (o : AObj), ByP b bs va o ∧ (∀ a ∈ bs, a < 256) ∧ Nonempty (ParR w b va o v') := by
 rcases h with rfl | ⟨bb, off, len, cap, c, ty, lo, hi, rfl, h1, h2, h3, h4, h5⟩
 ·exact ⟨[], .nilslice, .dead, .nil rfl, (fun _ h => nomatch h), ⟨⟨none, (fun _ h => nomatch h), (fun _ _ h => nomatch h), fun _ _ => .nilslice⟩⟩⟩
 ·have hb := (Array.getElem?_eq_some_iff.1 h3).1
  by_cases h0 : len = 0
  ·subst h0
   exact ⟨[], .slice b 0 0 cap 1, .dead, .zero cap rfl, (fun _ h => nomatch h), ⟨⟨some ⟨bb, off + cap * 1, off, none⟩, fun i h => (by cases h; exact hb), fun i ρ h => trivial, fun ρ hρ => .slice (i := ⟨bb, off + cap * 1, off, none⟩) hρ (Nat.zero_le _) (Nat.le_refl _) (fun _ => by simp) (Nat.le_refl _)⟩⟩⟩
  ·have hact : ∀ i, i < len → ∃ a : Nat, a < 256 ∧ c[i + off]? = some (.int .u8 ((a : Nat) : Int)) := by
    intro i hi
    obtain ⟨_, q1, n1, rfl, w1⟩ := h5 i 0 _ hi rfl
    obtain ⟨m1, rfl, u1⟩ := int_nat rfl w1
    have u1 : (m1 : Int) ≤ 255 := u1
    exact ⟨m1, by omega, by simpa using q1⟩
   obtain ⟨bs, z1, z2⟩ := list_ofT len hact
   have h7 := h4 (Nat.mul_pos (by omega) (by decide))
   have h7 : off + cap * 1 ≤ c.size := h7
   subst z1
   have hne : bs ≠ [] := fun e => h0 (by rw [e]; rfl)
   refine ⟨bs, .slice b 0 bs.length bs.length 1, .cells (vBytes bs) true, .some hne, fun a ha => ?_, ⟨⟨some ⟨bb, c.size, off, none⟩, fun i h => (by cases h; exact hb), fun i ρ h => ?_, fun ρ hρ => .slice (i := ⟨bb, c.size, off, none⟩) hρ (Nat.le_refl _) h1 (fun _ => by simp) h7⟩⟩⟩
   ·obtain ⟨i, hi, rfl⟩ := List.getElem_of_mem ha
    have := (z2 i hi).1
    rwa [List.getD_eq_getElem?_getD, List.getElem?_eq_getElem hi] at this
   ·cases h
    refine ⟨c, ty, lo, hi, h3, rfl, fun x v hx => ?_, fun h => nomatch h⟩
    obtain ⟨g1, rfl⟩ := vB_at hx
    exact ⟨_, (z2 x g1).2, .int _ _⟩
def ren3 (r0 r1 r2 : Option Img) : Ren
 | 0 => r0
 | 1 => r1
 | 2 => r2
 | _ => none
theorem SlP.wr {b : Nat} {acs : List Act} {v : V} {o : AObj} (h : SlP b acs v o) : o.wr = false := by cases h <;> rfl
theorem ByP.wr {b : Nat} {acs : List Nat} {v : V} {o : AObj} (h : ByP b acs v o) : o.wr = false := by cases h <;> rfl
theorem law_calls {P : Program} (k : Known P) {w : World} (st : Bool) {v1 v2 v3 : Value} (h1 : IsSliceK w actK v1) (h2 : IsSliceK w actK v2) (h3 : IsSliceK w u8K v3) : Calls P 3 #[.bool st, v1, v2, v3] w fun e w' => e = .returned (.bool true) ∧ Stays w w' := by
 obtain ⟨acs, sa, oa, hA, ha, la, ⟨pa⟩⟩ := par_act h1 0
 obtain ⟨ls, sl, ol, hL, hl, ll, ⟨pl⟩⟩ := par_act h2 1
 obtain ⟨bs, sp, op, hB, hb, ⟨pb⟩⟩ := par_bytes h3 2
 refine calls_ro (r := ren3 pa.r pl.r pb.r) (law_con k (st := st) hA hL hB ha hl hb la ll) (fun o ho => ?_) (fun x i h => ?_) (fun x i o h ho => ?_) ?_
 ·simp only [List.mem_cons, List.not_mem_nil, or_false] at ho
  rcases ho with rfl | rfl | rfl
  ·exact hA.wr
  ·exact hL.wr
  ·exact hB.wr
 ·match x, h with
  | 0, h => exact ⟨show 0 < 3 by decide, pa.lt i h⟩
  | 1, h => exact ⟨show 1 < 3 by decide, pl.lt i h⟩
  | 2, h => exact ⟨show 2 < 3 by decide, pb.lt i h⟩
 ·match x, h, ho with
  | 0, h, ho => cases ho; exact pa.obj i _ h
  | 1, h, ho => cases ho; exact pl.obj i _ h
  | 2, h, ho => cases ho; exact pb.obj i _ h
 ·exact .cons (.bool st) (.cons (pa.val _ rfl) (.cons (pl.val _ rfl) (.cons (pb.val _ rfl) .nil)))
end Go.Proofs.Ytblblhfgpcgheaa
