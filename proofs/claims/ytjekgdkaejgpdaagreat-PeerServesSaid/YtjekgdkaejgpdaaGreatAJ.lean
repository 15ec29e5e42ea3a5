/- Requests and answers by what they are. No condition. -/
import Derived.Test.YtjekgdkaejgpdaaGreatAW
namespace Go.Proofs.YtjekgdkaejgpdaaGreat
open Go Go.AM
set_option maxRecDepth 100000
set_option maxHeartbeats 4000000
set_option linter.unusedVariables false
set_option linter.unusedSectionVars false
theorem addS {a b : List Nat} (h : a.length + b.length ≤ 1000000000) : zBg .add (.str a) (.str b) = some (.str (a ++ b)) := by
 show (bif Nat.ble _ _ then _ else _) = _
 rw [zAA.2 (by omega), cond_true]
open Classical in
noncomputable def rqR0 : List V → Option V
 | [.agg [.int .u16 f, .int .u16 kd, .int .u64 ck, .int .u64 of, .int .u32 ln, .str d]] => if f = 0 ∧ 0 ≤ kd ∧ kd < 65536 ∧ 0 ≤ ck ∧ ck < 18446744073709551616 ∧ 0 ≤ of ∧ of < 18446744073709551616 ∧ 0 ≤ ln ∧ ln < 4294967296 ∧ d.length ≤ 1000000 ∧ (kd = 1 → (d.length : Int) = ln) ∧ (kd ≠ 1 → d.length = 0) then some (.tuple [.str (rqL kd.toNat ck.toNat of.toNat ln.toNat ++ d), .int .i64 0]) else none
 | _ => none
theorem rqR_ex : ∃ R : List V → Option V, R = rqR0 := ⟨_, rfl⟩
noncomputable def rqR : List V → Option V := Classical.choose rqR_ex
theorem rqR_eq : rqR = rqR0 := Classical.choose_spec rqR_ex
theorem rqR_y {kd ck of ln : Nat} {d : List Nat} (h1 : kd < 65536) (h2 : ck < 18446744073709551616) (h3 : of < 18446744073709551616) (h4 : ln < 4294967296) (h5 : d.length ≤ 1000000) (h6 : kd = 1 → d.length = ln) (h7 : kd ≠ 1 → d.length = 0) : rqR [.agg [.int .u16 0, .int .u16 ((kd : Nat) : Int), .int .u64 ((ck : Nat) : Int), .int .u64 ((of : Nat) : Int), .int .u32 ((ln : Nat) : Int), .str d]] = some (.tuple [.str (rqL kd ck of ln ++ d), .int .i64 0]) := by
 rw [rqR_eq]
 unfold rqR0
 dsimp only
 rw [if_pos ⟨rfl, by omega, by omega, by omega, by omega, by omega, by omega, by omega, by omega, h5, fun h => by have := h6 (by omega); omega, fun h => h7 (by omega)⟩]
 simp only [Int.toNat_natCast]
open Classical in
noncomputable def rpR0 : List V → Option V
 | [.agg [.int .u32 e, .int .u64 ck, .str d]] => if 0 ≤ e ∧ e < 4294967296 ∧ 0 ≤ ck ∧ ck < 18446744073709551616 ∧ d.length ≤ 1000000 then some (.str (rpL e.toNat ck.toNat ++ d)) else none
 | _ => none
theorem rpR_ex : ∃ R : List V → Option V, R = rpR0 := ⟨_, rfl⟩
noncomputable def rpR : List V → Option V := Classical.choose rpR_ex
theorem rpR_eq : rpR = rpR0 := Classical.choose_spec rpR_ex
theorem rpR_y {e ck : Nat} {d : List Nat} (h1 : e < 4294967296) (h2 : ck < 18446744073709551616) (h5 : d.length ≤ 1000000) : rpR [.agg [.int .u32 ((e : Nat) : Int), .int .u64 ((ck : Nat) : Int), .str d]] = some (.str (rpL e ck ++ d)) := by
 rw [rpR_eq]
 unfold rpR0
 dsimp only
 rw [if_pos ⟨by omega, by omega, by omega, by omega, h5⟩]
 simp only [Int.toNat_natCast]
open Classical in
noncomputable def cbR0 : List V → Option V
 | [.agg [.int .u16 f, .int .u16 kd, .int .u64 ck, .str d]] => if 0 ≤ f ∧ f < 65536 ∧ 0 ≤ kd ∧ kd < 65536 ∧ 0 ≤ ck ∧ ck < 18446744073709551616 ∧ d.length ≤ 1000000 then some (.str (chL f.toNat kd.toNat ck.toNat d.length ++ d)) else none
 | _ => none
theorem cbR_ex : ∃ R : List V → Option V, R = cbR0 := ⟨_, rfl⟩
noncomputable def cbR : List V → Option V := Classical.choose cbR_ex
theorem cbR_eq : cbR = cbR0 := Classical.choose_spec cbR_ex
theorem cbR_y {f kd ck : Nat} {d : List Nat} (h0 : f < 65536) (h1 : kd < 65536) (h2 : ck < 18446744073709551616) (h5 : d.length ≤ 1000000) : cbR [.agg [.int .u16 ((f : Nat) : Int), .int .u16 ((kd : Nat) : Int), .int .u64 ((ck : Nat) : Int), .str d]] = some (.str (chL f kd ck d.length ++ d)) := by
 rw [cbR_eq]
 unfold cbR0
 dsimp only
 rw [if_pos ⟨by omega, by omega, by omega, by omega, by omega, by omega, h5⟩]
 simp only [Int.toNat_natCast]
open Classical in
noncomputable def dcR0 : List V → Option V
 | [.int .u64 ck, .int .u64 of, .str d] => if 0 ≤ ck ∧ ck < 18446744073709551616 ∧ 0 ≤ of ∧ of < 18446744073709551616 ∧ d.length ≤ 1000000 then some (.agg [.int .u16 1, .int .u16 1, .int .u64 ck, .str (ofL of.toNat ++ d)]) else none
 | _ => none
theorem dcR_ex : ∃ R : List V → Option V, R = dcR0 := ⟨_, rfl⟩
noncomputable def dcR : List V → Option V := Classical.choose dcR_ex
theorem dcR_eq : dcR = dcR0 := Classical.choose_spec dcR_ex
theorem dcR_y {ck of : Nat} {d : List Nat} (h1 : ck < 18446744073709551616) (h2 : of < 18446744073709551616) (h5 : d.length ≤ 1000000) : dcR [.int .u64 ((ck : Nat) : Int), .int .u64 ((of : Nat) : Int), .str d] = some (.agg [.int .u16 1, .int .u16 1, .int .u64 ((ck : Nat) : Int), .str (ofL of ++ d)]) := by
 rw [dcR_eq]
 unfold dcR0
 dsimp only
 rw [if_pos ⟨by omega, by omega, by omega, by omega, h5⟩]
 simp only [Int.toNat_natCast]
open Classical in
noncomputable def ecR0 : List V → Option V
 | [.int .u64 ck, .int .u32 e] => if 0 ≤ ck ∧ ck < 18446744073709551616 ∧ 0 ≤ e ∧ e < 4294967296 then some (.agg [.int .u16 1, .int .u16 32769, .int .u64 ck, .str (erL e.toNat)]) else none
 | _ => none
theorem ecR_ex : ∃ R : List V → Option V, R = ecR0 := ⟨_, rfl⟩
noncomputable def ecR : List V → Option V := Classical.choose ecR_ex
theorem ecR_eq : ecR = ecR0 := Classical.choose_spec ecR_ex
theorem ecR_y {ck e : Nat} (h1 : ck < 18446744073709551616) (h2 : e < 4294967296) : ecR [.int .u64 ((ck : Nat) : Int), .int .u32 ((e : Nat) : Int)] = some (.agg [.int .u16 1, .int .u16 32769, .int .u64 ((ck : Nat) : Int), .str (erL e)]) := by
 rw [ecR_eq]
 unfold ecR0
 dsimp only
 rw [if_pos ⟨by omega, by omega, by omega, by omega⟩]
 simp only [Int.toNat_natCast]
def qmg : List Nat := [37, 96, 149, 19]
def nqT (kd ck of ln : Nat) (d : List Nat) (n : Nat) : V := .tuple [.agg [.int .u16 0, .int .u16 ((kd : Nat) : Int), .int .u64 ((ck : Nat) : Int), .int .u64 ((of : Nat) : Int), .int .u32 ((ln : Nat) : Int), .str d], .int .i64 ((n : Nat) : Int), .int .i64 0]
structure IsQ (s : List Nat) : Prop where
 (long : 28 ≤ s.length) (most : s.length ≤ 2000) (lt : ∀ b ∈ s, b < 256) (beg : begB s qmg = true) (fl : bat s 4 2 = 0)
 (w : bat s 6 2 = 1 → bat s 24 4 + 28 = s.length ∧ s.length ≤ 1052) (n : bat s 6 2 ≠ 1 → s.length = 28)
open Classical in
noncomputable def nqR : List V → Option V
 | [.str s, .int .i64 m] => if m = 1024 then (if s = [] then some (nqT 0 0 0 0 [] 0) else if IsQ s then some (nqT (bat s 6 2) (bat s 8 8) (bat s 16 8) (bat s 24 4) (s.drop 28) s.length) else none) else none
 | _ => none
theorem nqR_0 : nqR [.str [], .int .i64 1024] = some (nqT 0 0 0 0 [] 0) := by
 unfold nqR
 dsimp only
 rw [if_pos rfl, if_pos rfl]
theorem nqR_y {s : List Nat} (h : IsQ s) : nqR [.str s, .int .i64 1024] = some (nqT (bat s 6 2) (bat s 8 8) (bat s 16 8) (bat s 24 4) (s.drop 28) s.length) := by
 unfold nqR
 dsimp only
 rw [if_pos rfl, if_neg (fun e => by have := h.long; rw [e] at this; simp at this), if_pos h]
section
variable {P : Program} (hmix : P.follows .mixedOrders = true)
include hmix
theorem tbQ_ok (o43 : FOk P 69 c69) (o59 : FOk P 97 c97) : zDx P tbQ := by
 intro f af h
 simp only [tbQ] at h
 by_cases e : f = 69
 ·subst e; cases h; exact o43
 ·rw [zAS e, cond_false] at h
  by_cases e : f = 97
  ·subst e; cases h; exact o59
  ·rw [zAS e, cond_false] at h; cases h
theorem rq39_ok (o43 : FOk P 69 c69) (o59 : FOk P 97 c97) (o : FOk P 39 c39) {la : CF Prop} (hla : zAv P la id) : zAv P (zAi 39 rqR la) id := zA9 (zAx o) (fun ρ args args' v hv ha => by
 rw [rqR_eq] at hv; unfold rqR0 at hv; split at hv
 ·split at hv
  ·rename_i f kd ck of ln d hh
   obtain ⟨rfl, h1, h2, h3, h4, h5, h6, h7, h8, h9, g1, g2⟩ := hh
   cases hv
   obtain ⟨kd, rfl⟩ := Int.eq_ofNat_of_zero_le h1
   obtain ⟨ck, rfl⟩ := Int.eq_ofNat_of_zero_le h3
   obtain ⟨of, rfl⟩ := Int.eq_ofNat_of_zero_le h5
   obtain ⟨ln, rfl⟩ := Int.eq_ofNat_of_zero_le h7
   have h2 : kd < 65536 := by omega
   have h4 : ck < 18446744073709551616 := by omega
   have h6 : of < 18446744073709551616 := by omega
   have h8 : ln < 4294967296 := by omega
   have hcf := zAn (A := pA) zAX hmix (tbQ_ok hmix o43 o59) zBl 5
   refine zAy hmix o hcf ha rfl rfl (fun K hK => ?_)
   have hK : ∀ mm, K (.tuple [.str (rqL kd ck of ln ++ d), .int .i64 0]) mm := hK
   by_cases hk : kd = 1
   ·subst hk
    exact rq_1 _ ck of ln h4 h6 h8 d _ (addS (by show 28 + d.length ≤ _; omega)) (by have := g1 rfl; omega) K hK
   ·exact rq_0 _ kd ck of ln h2 h4 h6 h8 d h9 _ (addS (by show 28 + d.length ≤ _; omega)) hk (g2 (by omega)) K hK
  ·cases hv
 ·cases hv) hla
theorem r100_ok (o43 : FOk P 69 c69) (o59 : FOk P 97 c97) (o : FOk P 100 c100) {la : CF Prop} (hla : zAv P la id) : zAv P (zAi 100 rpR la) id := zA9 (zAx o) (fun ρ args args' v hv ha => by
 rw [rpR_eq] at hv; unfold rpR0 at hv; split at hv
 ·split at hv
  ·rename_i e ck d hh
   obtain ⟨h1, h2, h3, h4, h9⟩ := hh
   cases hv
   obtain ⟨e, rfl⟩ := Int.eq_ofNat_of_zero_le h1
   obtain ⟨ck, rfl⟩ := Int.eq_ofNat_of_zero_le h3
   have h2 : e < 4294967296 := by omega
   have h4 : ck < 18446744073709551616 := by omega
   have hcf := zAn (A := pA) zAX hmix (tbQ_ok hmix o43 o59) zBl 5
   refine zAy hmix o hcf ha rfl rfl (fun K hK => ?_)
   exact vr_b _ e ck h2 h4 d _ (addS (by show 16 + d.length ≤ _; omega)) K hK
  ·cases hv
 ·cases hv) hla
theorem r101_ok (o43 : FOk P 69 c69) (o59 : FOk P 97 c97) (o : FOk P 101 c101) {la : CF Prop} (hla : zAv P la id) : zAv P (zAi 101 cbR la) id := zA9 (zAx o) (fun ρ args args' v hv ha => by
 rw [cbR_eq] at hv; unfold cbR0 at hv; split at hv
 ·split at hv
  ·rename_i f kd ck d hh
   obtain ⟨h1, h2, h3, h4, h5, h6, h9⟩ := hh
   cases hv
   obtain ⟨f, rfl⟩ := Int.eq_ofNat_of_zero_le h1
   obtain ⟨kd, rfl⟩ := Int.eq_ofNat_of_zero_le h3
   obtain ⟨ck, rfl⟩ := Int.eq_ofNat_of_zero_le h5
   have h2 : f < 65536 := by omega
   have h4 : kd < 65536 := by omega
   have h6 : ck < 18446744073709551616 := by omega
   have hcf := zAn (A := pA) zAX hmix (tbQ_ok hmix o43 o59) zBl 5
   refine zAy hmix o hcf ha rfl rfl (fun K hK => ?_)
   exact vc_b _ f kd ck h2 h4 h6 d h9 _ (addS (by show 20 + d.length ≤ _; omega)) K hK
  ·cases hv
 ·cases hv) hla
theorem r103_ok (o43 : FOk P 69 c69) (o59 : FOk P 97 c97) (o : FOk P 103 c103) {la : CF Prop} (hla : zAv P la id) : zAv P (zAi 103 dcR la) id := zA9 (zAx o) (fun ρ args args' v hv ha => by
 rw [dcR_eq] at hv; unfold dcR0 at hv; split at hv
 ·split at hv
  ·rename_i ck of d hh
   obtain ⟨h1, h2, h3, h4, h9⟩ := hh
   cases hv
   obtain ⟨ck, rfl⟩ := Int.eq_ofNat_of_zero_le h1
   obtain ⟨of, rfl⟩ := Int.eq_ofNat_of_zero_le h3
   have h2 : ck < 18446744073709551616 := by omega
   have h4 : of < 18446744073709551616 := by omega
   have hcf := zAn (A := pA) zAX hmix (tbQ_ok hmix o43 o59) zBl 5
   refine zAy hmix o hcf ha rfl rfl (fun K hK => ?_)
   exact vd_b _ ck of h2 h4 d _ (addS (by show 8 + d.length ≤ _; omega)) K hK
  ·cases hv
 ·cases hv) hla
theorem r102_ok (o43 : FOk P 69 c69) (o59 : FOk P 97 c97) (o : FOk P 102 c102) {la : CF Prop} (hla : zAv P la id) : zAv P (zAi 102 ecR la) id := zA9 (zAx o) (fun ρ args args' v hv ha => by
 rw [ecR_eq] at hv; unfold ecR0 at hv; split at hv
 ·split at hv
  ·rename_i ck e hh
   obtain ⟨h1, h2, h3, h4⟩ := hh
   cases hv
   obtain ⟨ck, rfl⟩ := Int.eq_ofNat_of_zero_le h1
   obtain ⟨e, rfl⟩ := Int.eq_ofNat_of_zero_le h3
   have h2 : ck < 18446744073709551616 := by omega
   have h4 : e < 4294967296 := by omega
   have hcf := zAn (A := pA) zAX hmix (tbQ_ok hmix o43 o59) zBl 5
   refine zAy hmix o hcf ha rfl rfl (fun K hK => ?_)
   exact ve_b _ ck e h2 h4 K hK
  ·cases hv
 ·cases hv) hla
abbrev lbq : CF Prop := zAi 85 bgR (zAi 87 (rdR 4 .u32) (zAi 92 (rdR 8 .u64) (zAi 108 (rdR 2 .u16) (zAi 86 boR la0))))
theorem r95_ok (hb : zAv P lbq id) (o : FOk P 95 c95) {la : CF Prop} (hla : zAv P la id) : zAv P (zAi 95 nqR la) id := zA9 (zAx o) (fun ρ args args' v hv ha => by
 unfold nqR at hv; split at hv
 ·rename_i s m
  split at hv
  ·rename_i hm
   subst hm
   have hcf := zAn (A := pA) zAX hmix zEX hb 5
   split at hv
   ·rename_i hs
    subst hs
    cases hv
    refine zAy hmix o hcf ha rfl rfl (fun K hK => ?_)
    exact vq_0 _ _ _ _ _ _ [] (by decide) (bgR_y (by decide) (by decide)) (by decide) K hK
   ·split at hv
    ·rename_i hq
     cases hv
     refine zAy hmix o hcf ha rfl rfl (fun K hK => ?_)
     have hl : s.length ≤ 1099511627776 := by have := hq.most; omega
     have hbg := bgR_y (s := s) (w := qmg) hl (by decide)
     rw [hq.beg] at hbg
     have l28 := hq.long
     have q1 := zHe (k := 2) (kd := .u16) (s := s) (i := 4) (by decide) (by omega) hq.lt
     rw [hq.fl] at q1
     have q2 := zHe (k := 2) (kd := .u16) (s := s) (i := 6) (by decide) (by omega) hq.lt
     have q3 := zHe (k := 8) (kd := .u64) (s := s) (i := 8) (by decide) (by omega) hq.lt
     have q4 := zHe (k := 8) (kd := .u64) (s := s) (i := 16) (by decide) (by omega) hq.lt
     have q5 := zHe (k := 4) (kd := .u32) (s := s) (i := 24) (by decide) (by omega) hq.lt
     by_cases hk : bat s 6 2 = 1
     ·have hw := hq.w hk
      have hbo := boR_y (s := s) (h := 28) (m := 1024) (by decide) (by decide) (by decide) hl hq.lt
      have e : boV s 28 1024 = .tuple [.str (s.drop 28), .int .i64 ((s.length : Nat) : Int), .int .i64 0] := by
       unfold boV
       rw [if_neg (by omega), if_neg (by show ¬ 1024 < bat s 24 4; omega), if_neg (by show ¬ s.length - 28 < bat s 24 4; omega)]
       have e1 : bat s (28 - 4) 4 = s.length - 28 := by show bat s 24 4 = _; omega
       rw [e1, List.take_of_length_le (by rw [List.length_drop]; omega), show 28 + (s.length - 28) = s.length by omega]
      rw [e] at hbo
      have hK' : ∀ mm, K (nqT (bat s 6 2) (bat s 8 8) (bat s 16 8) (bat s 24 4) (s.drop 28) s.length) mm := hK
      rw [hk] at hK'
      exact vq_w _ _ _ _ _ _ s hl hbg l28 (bat s 6 2) (bat s 8 8) (bat s 16 8) (bat s 24 4) (zGD hq.lt 6 2) (zGD hq.lt 24 4) q1 q2 q3 q4 q5 hk (s.drop 28) s.length (by omega) (by have := hq.most; omega) hbo K hK'
     ·have hn := hq.n hk
      have hK' : ∀ mm, K (nqT (bat s 6 2) (bat s 8 8) (bat s 16 8) (bat s 24 4) (s.drop 28) s.length) mm := hK
      rw [hn, show s.drop 28 = [] from List.drop_eq_nil_of_le (by omega)] at hK'
      exact vq_n _ _ _ _ _ _ s hl hbg l28 (bat s 6 2) (bat s 8 8) (bat s 16 8) (bat s 24 4) (zGD hq.lt 6 2) (zGD hq.lt 24 4) q1 q2 q3 q4 q5 hk K hK'
    ·cases hv
  ·cases hv
 ·cases hv) hla
end
end Go.Proofs.YtjekgdkaejgpdaaGreat
