/- Kinds of requests: runs by script. No condition. -/
import Derived.Test.YtjekgdkaejgpdaaGreatDK
namespace Go.Proofs.YtjekgdkaejgpdaaGreat
open Go Go.AM
set_option maxRecDepth 100000
set_option maxHeartbeats 0
set_option linter.unusedVariables false
set_option linter.unusedSectionVars false
noncomputable section
section
variable (Y : Ys Prop) (t : Nat)
include Y t
theorem kd_0 (h : t = 0) (K : V → Mem → Prop) (hK : ∀ mm, K (vy 1) mm) :
   zAD pA (zAt pA tb0 la0 5) Y c110 [vh ↑t] ⟨0, .leaf⟩ K :=
  zAm (zAc) (wt 3 (.fix s5 bT .nil))
  (show (vb (eqI (↑t) 0) = bT ∧ vy 1 = vy 1) from
  ⟨(cb (eqT rfl rfl (by omega))), (by rfl)⟩)
  (by kernel_rfl) Y K hK
theorem kd_1 (h : t = 1) (K : V → Mem → Prop) (hK : ∀ mm, K (vy 2) mm) :
   zAD pA (zAt pA tb0 la0 5) Y c110 [vh ↑t] ⟨0, .leaf⟩ K :=
  zAm (zAc) (wt 3 (.fix s5 bF (wt 3 (.fix s7 bT .nil))))
  (show (vb (eqI (↑t) 0) = bF ∧ vb (eqI (↑t) 1) = bT ∧ vy 2 = vy 2) from
  ⟨(cb (eqF rfl rfl (by omega))), (cb (eqT rfl rfl (by omega))), (by rfl)⟩)
  (by kernel_rfl) Y K hK
theorem kd_3 (h : t = 3) (K : V → Mem → Prop) (hK : ∀ mm, K (vy 3) mm) :
   zAD pA (zAt pA tb0 la0 5) Y c110 [vh ↑t] ⟨0, .leaf⟩ K :=
  zAm (zAc) (wt 3 (.fix s5 bF (wt 3 (.fix s7 bF (wt 3 (.fix s9 bT .nil))))))
  (show (vb (eqI (↑t) 0) = bF ∧ vb (eqI (↑t) 1) = bF ∧ vb (eqI (↑t) 3) = bT ∧ vy 3 = vy 3) from
  ⟨(cb (eqF rfl rfl (by omega))), (cb (eqF rfl rfl (by omega))), (cb (eqT rfl rfl (by omega))), (by rfl)⟩)
  (by kernel_rfl) Y K hK
theorem kd_6 (h : t = 6) (K : V → Mem → Prop) (hK : ∀ mm, K (vy 4) mm) :
   zAD pA (zAt pA tb0 la0 5) Y c110 [vh ↑t] ⟨0, .leaf⟩ K :=
  zAm (zAc) (wt 3 (.fix s5 bF (wt 3 (.fix s7 bF (wt 3 (.fix s9 bF (wt 3 (.fix s11 bF (wt 3 (.fix s13 bT .nil))))))))))
  (show (vb (eqI (↑t) 0) = bF ∧ vb (eqI (↑t) 1) = bF ∧ vb (eqI (↑t) 3) = bF ∧ vb (eqI (↑t) 4) = bF ∧ vb (eqI (↑t) 6) = bT ∧ vy 4 = vy 4) from
  ⟨(cb (eqF rfl rfl (by omega))), (cb (eqF rfl rfl (by omega))), (cb (eqF rfl rfl (by omega))), (cb (eqF rfl rfl (by omega))), (cb (eqT rfl rfl (by omega))), (by rfl)⟩)
  (by kernel_rfl) Y K hK
theorem kd_9 (h : t = 9) (K : V → Mem → Prop) (hK : ∀ mm, K (vy 0) mm) :
   zAD pA (zAt pA tb0 la0 5) Y c110 [vh ↑t] ⟨0, .leaf⟩ K :=
  zAm (zAc) (wt 3 (.fix s5 bF (wt 3 (.fix s7 bF (wt 3 (.fix s9 bF (wt 3 (.fix s11 bF (wt 3 (.fix s13 bF .nil))))))))))
  (show (vb (eqI (↑t) 0) = bF ∧ vb (eqI (↑t) 1) = bF ∧ vb (eqI (↑t) 3) = bF ∧ vb (eqI (↑t) 4) = bF ∧ vb (eqI (↑t) 6) = bF ∧ vy 0 = vy 0) from
  ⟨(cb (eqF rfl rfl (by omega))), (cb (eqF rfl rfl (by omega))), (cb (eqF rfl rfl (by omega))), (cb (eqF rfl rfl (by omega))), (cb (eqF rfl rfl (by omega))), (by rfl)⟩)
  (by kernel_rfl) Y K hK
end
abbrev fFW0 : List V := [vh 0, vh 1, vh 0, vh 6, vh 3, vh 1, vh 0, vh 9]
abbrev fFW2 (n : Nat) : List V := [V.str [97 + n % 26], vi ↑(64 * (1 + n / 128 % 2))]
abbrev fFW3 (RR : List V → Option V) : Ys Prop → CF Prop := zAt pA tb0 (zAi 25 RR la0) 5
section
variable (Y : Ys Prop) (RR : List V → Option V) (n t : Nat) (hn : n < 65536) (ht : t < 65536) (h8 : n % 8 < 8) (hx : nth fFW0 (n % 8) = some (vh ↑t))
include Y RR n t hn ht h8 hx
theorem rq_wy (d : List Nat) (hr : RR (fFW2 n) = some (V.str d)) (h1 : t = 1) (h97 : n % 97 = 0) (K : V → Mem → Prop) (hK : ∀ mm, K (V.agg [vh 0, vh ↑t, vq 0, vq 1, vw ↑(64 * (1 + n / 128 % 2)), V.str d]) mm) :
   zAD pA (fFW3 RR) Y c12 [vh ↑n] ⟨0, .leaf⟩ K :=
  zAm ((zAb zAc)) (wt 4 (.fix s6 (vh ↑(n % 8)) (.res (V.ptr 1 (n % 8)) (.res (vh ↑t) (wt 2 (.fix s10 (vh ↑(n / 8)) (wt 1 (.fix s11 (vh ↑(n / 8 % 15)) (wt 1 (.fix s12 (vq ↑(n / 8 % 15)) (wt 3 (.fix s15 (vh ↑(n / 128)) (wt 1 (.fix s16 (vh ↑(n / 128 % 2)) (wt 1 (.fix s17 (vh ↑(1 + n / 128 % 2)) (wt 1 (.fix s18 (vw ↑(1 + n / 128 % 2)) (wt 1 (.fix s13 (vq ↑(64 * (n / 8 % 15))) (.fix s19 (vw ↑(64 * (1 + n / 128 % 2))) (wt 6 (.fix s24 bT (wt 4 (.fix s26 (vh ↑(n % 26)) (wt 1 (.fix s27 (vh ↑(97 + n % 26)) (wt 1 (.fix s28 (vy ↑(97 + n % 26)) (wt 5 (.fix s30 (V.str [97 + n % 26]) (.fix s33 (vi ↑(64 * (1 + n / 128 % 2))) (.lay (Lay.plain (V.str d)) (wt 4 (.fix s41 (vh ↑(n % 97)) (wt 1 (.fix s42 bT .nil)))))))))))))))))))))))))))))))))))))
  (show (vh (Int.tmod (↑n) 8) = vh ↑(n % 8) ∧ zBh 1 (V.slice 1 0 8 8 1) (vh ↑(n % 8)) = some (V.ptr 1 (n % 8)) ∧ nth (fFW0) (n % 8) = some (vh ↑t) ∧ vh (wr IntKind.u16 (Int.tdiv (↑n) 8)) = vh ↑(n / 8) ∧ vh (Int.tmod (↑(n / 8)) 15) = vh ↑(n / 8 % 15) ∧ vq ↑(n / 8 % 15 % 18446744073709551616) = vq ↑(n / 8 % 15) ∧ vh (wr IntKind.u16 (Int.tdiv (↑n) 128)) = vh ↑(n / 128) ∧ vh (Int.tmod (↑(n / 128)) 2) = vh ↑(n / 128 % 2) ∧ vh (wr IntKind.u16 (zCe 1 ↑(n / 128 % 2))) = vh ↑(1 + n / 128 % 2) ∧ vw ↑((1 + n / 128 % 2) % 4294967296) = vw ↑(1 + n / 128 % 2) ∧ vq (wr IntKind.u64 (zH6 64 ↑(n / 8 % 15))) = vq ↑(64 * (n / 8 % 15)) ∧ vw (wr IntKind.u32 (zH6 64 ↑(1 + n / 128 % 2))) = vw ↑(64 * (1 + n / 128 % 2)) ∧ vb (eqI (↑t) 1) = bT ∧ vh (Int.tmod (↑n) 26) = vh ↑(n % 26) ∧ vh (wr IntKind.u16 (zCe 97 ↑(n % 26))) = vh ↑(97 + n % 26) ∧ vy ↑((97 + n % 26) % 256) = vy ↑(97 + n % 26) ∧ V.str [(97 + n % 26) % 256] = V.str [97 + n % 26] ∧ vi (wr IntKind.i64 ↑(64 * (1 + n / 128 % 2))) = vi ↑(64 * (1 + n / 128 % 2)) ∧ fnP (zAi 25 RR la0) 25 (fFW2 n) (V.str d) ∧ (vh (Int.tmod (↑n) 97) = vh ↑(n % 97) ∧ vb (eqI (↑(n % 97)) 0) = bT ∧ rR (V.agg [vh 0, vh ↑t, vq 0, vq 1, vw ↑(64 * (1 + n / 128 % 2)), V.str d]))) from
  ⟨(cj (zBe (a := n) (b := 8) rfl rfl)), (zBm (i := n % 8) rfl (by omega)), hx, (cj (zB9 (zCn (a := n) (b := 8) rfl rfl) (by omega) (by omega))), (cj (zBe (a := n / 8) (b := 15) rfl rfl)), (cq (zBc (zAP rfl (by omega)))), (cj (zB9 (zCn (a := n) (b := 128) rfl rfl) (by omega) (by omega))), (cj (zBe (a := n / 128) (b := 2) rfl rfl)), (cj (zB9 (addN (a := 1) (b := n / 128 % 2) rfl rfl) (by omega) (by omega))), (cw (zBc (zAP rfl (by omega)))), (cq (zBH (mulN (a := 64) (b := n / 8 % 15) rfl rfl) (by omega) (by omega))), (cw (zD5 (mulN (a := 64) (b := 1 + n / 128 % 2) rfl rfl) (by omega) (by omega))), (cb (eqT rfl rfl (by omega))), (cj (zBe (a := n) (b := 26) rfl rfl)), (cj (zB9 (addN (a := 97) (b := n % 26) rfl rfl) (by omega) (by omega))), (cy (zBc (zAP rfl (by omega)))), (congrArg V.str (zAu (zAP rfl (by omega)) rfl)), (ci (zAs rfl (by omega) (by omega))), fun m' K' => fnE hr, ⟨(cj (zBe (a := n) (b := 97) rfl rfl)), cb (eqT (zBc h97) rfl (by omega)), (by rfl)⟩⟩)
  (by kernel_rfl) Y K hK
theorem rq_fy (h1 : t = 3) (h97 : n % 97 = 0) (K : V → Mem → Prop) (hK : ∀ mm, K (V.agg [vh 0, vh ↑t, vq 0, vq 1, vw 0, V.str []]) mm) :
   zAD pA (fFW3 RR) Y c12 [vh ↑n] ⟨0, .leaf⟩ K :=
  zAm ((zAb zAc)) (wt 4 (.fix s6 (vh ↑(n % 8)) (.res (V.ptr 1 (n % 8)) (.res (vh ↑t) (wt 2 (.fix s10 (vh ↑(n / 8)) (wt 1 (.fix s11 (vh ↑(n / 8 % 15)) (wt 1 (.fix s12 (vq ↑(n / 8 % 15)) (wt 3 (.fix s15 (vh ↑(n / 128)) (wt 1 (.fix s16 (vh ↑(n / 128 % 2)) (wt 1 (.fix s17 (vh ↑(1 + n / 128 % 2)) (wt 1 (.fix s18 (vw ↑(1 + n / 128 % 2)) (wt 1 (.fix s13 (vq ↑(64 * (n / 8 % 15))) (.fix s19 (vw ↑(64 * (1 + n / 128 % 2))) (wt 6 (.fix s24 bF (wt 3 (.fix s37 bT (wt 8 (.fix s41 (vh ↑(n % 97)) (wt 1 (.fix s42 bT .nil)))))))))))))))))))))))))))))
  (show (vh (Int.tmod (↑n) 8) = vh ↑(n % 8) ∧ zBh 1 (V.slice 1 0 8 8 1) (vh ↑(n % 8)) = some (V.ptr 1 (n % 8)) ∧ nth (fFW0) (n % 8) = some (vh ↑t) ∧ vh (wr IntKind.u16 (Int.tdiv (↑n) 8)) = vh ↑(n / 8) ∧ vh (Int.tmod (↑(n / 8)) 15) = vh ↑(n / 8 % 15) ∧ vq ↑(n / 8 % 15 % 18446744073709551616) = vq ↑(n / 8 % 15) ∧ vh (wr IntKind.u16 (Int.tdiv (↑n) 128)) = vh ↑(n / 128) ∧ vh (Int.tmod (↑(n / 128)) 2) = vh ↑(n / 128 % 2) ∧ vh (wr IntKind.u16 (zCe 1 ↑(n / 128 % 2))) = vh ↑(1 + n / 128 % 2) ∧ vw ↑((1 + n / 128 % 2) % 4294967296) = vw ↑(1 + n / 128 % 2) ∧ vq (wr IntKind.u64 (zH6 64 ↑(n / 8 % 15))) = vq ↑(64 * (n / 8 % 15)) ∧ vw (wr IntKind.u32 (zH6 64 ↑(1 + n / 128 % 2))) = vw ↑(64 * (1 + n / 128 % 2)) ∧ vb (eqI (↑t) 1) = bF ∧ vb (eqI (↑t) 3) = bT ∧ vh (Int.tmod (↑n) 97) = vh ↑(n % 97) ∧ vb (eqI (↑(n % 97)) 0) = bT ∧ rR (V.agg [vh 0, vh ↑t, vq 0, vq 1, vw 0, V.str []])) from
  ⟨(cj (zBe (a := n) (b := 8) rfl rfl)), (zBm (i := n % 8) rfl (by omega)), hx, (cj (zB9 (zCn (a := n) (b := 8) rfl rfl) (by omega) (by omega))), (cj (zBe (a := n / 8) (b := 15) rfl rfl)), (cq (zBc (zAP rfl (by omega)))), (cj (zB9 (zCn (a := n) (b := 128) rfl rfl) (by omega) (by omega))), (cj (zBe (a := n / 128) (b := 2) rfl rfl)), (cj (zB9 (addN (a := 1) (b := n / 128 % 2) rfl rfl) (by omega) (by omega))), (cw (zBc (zAP rfl (by omega)))), (cq (zBH (mulN (a := 64) (b := n / 8 % 15) rfl rfl) (by omega) (by omega))), (cw (zD5 (mulN (a := 64) (b := 1 + n / 128 % 2) rfl rfl) (by omega) (by omega))), (cb (eqF rfl rfl (by omega))), (cb (eqT rfl rfl (by omega))), (cj (zBe (a := n) (b := 97) rfl rfl)), cb (eqT (zBc h97) rfl (by omega)), (by rfl)⟩)
  (by kernel_rfl) Y K hK
theorem rq_oy (h1 : t ≠ 1) (h3 : t ≠ 3) (h97 : n % 97 = 0) (K : V → Mem → Prop) (hK : ∀ mm, K (V.agg [vh 0, vh ↑t, vq 0, vq 1, vw ↑(64 * (1 + n / 128 % 2)), V.str []]) mm) :
   zAD pA (fFW3 RR) Y c12 [vh ↑n] ⟨0, .leaf⟩ K :=
  zAm ((zAb zAc)) (wt 4 (.fix s6 (vh ↑(n % 8)) (.res (V.ptr 1 (n % 8)) (.res (vh ↑t) (wt 2 (.fix s10 (vh ↑(n / 8)) (wt 1 (.fix s11 (vh ↑(n / 8 % 15)) (wt 1 (.fix s12 (vq ↑(n / 8 % 15)) (wt 3 (.fix s15 (vh ↑(n / 128)) (wt 1 (.fix s16 (vh ↑(n / 128 % 2)) (wt 1 (.fix s17 (vh ↑(1 + n / 128 % 2)) (wt 1 (.fix s18 (vw ↑(1 + n / 128 % 2)) (wt 1 (.fix s13 (vq ↑(64 * (n / 8 % 15))) (.fix s19 (vw ↑(64 * (1 + n / 128 % 2))) (wt 6 (.fix s24 bF (wt 3 (.fix s37 bF (wt 4 (.fix s41 (vh ↑(n % 97)) (wt 1 (.fix s42 bT .nil)))))))))))))))))))))))))))))
  (show (vh (Int.tmod (↑n) 8) = vh ↑(n % 8) ∧ zBh 1 (V.slice 1 0 8 8 1) (vh ↑(n % 8)) = some (V.ptr 1 (n % 8)) ∧ nth (fFW0) (n % 8) = some (vh ↑t) ∧ vh (wr IntKind.u16 (Int.tdiv (↑n) 8)) = vh ↑(n / 8) ∧ vh (Int.tmod (↑(n / 8)) 15) = vh ↑(n / 8 % 15) ∧ vq ↑(n / 8 % 15 % 18446744073709551616) = vq ↑(n / 8 % 15) ∧ vh (wr IntKind.u16 (Int.tdiv (↑n) 128)) = vh ↑(n / 128) ∧ vh (Int.tmod (↑(n / 128)) 2) = vh ↑(n / 128 % 2) ∧ vh (wr IntKind.u16 (zCe 1 ↑(n / 128 % 2))) = vh ↑(1 + n / 128 % 2) ∧ vw ↑((1 + n / 128 % 2) % 4294967296) = vw ↑(1 + n / 128 % 2) ∧ vq (wr IntKind.u64 (zH6 64 ↑(n / 8 % 15))) = vq ↑(64 * (n / 8 % 15)) ∧ vw (wr IntKind.u32 (zH6 64 ↑(1 + n / 128 % 2))) = vw ↑(64 * (1 + n / 128 % 2)) ∧ vb (eqI (↑t) 1) = bF ∧ vb (eqI (↑t) 3) = bF ∧ vh (Int.tmod (↑n) 97) = vh ↑(n % 97) ∧ vb (eqI (↑(n % 97)) 0) = bT ∧ rR (V.agg [vh 0, vh ↑t, vq 0, vq 1, vw ↑(64 * (1 + n / 128 % 2)), V.str []])) from
  ⟨(cj (zBe (a := n) (b := 8) rfl rfl)), (zBm (i := n % 8) rfl (by omega)), hx, (cj (zB9 (zCn (a := n) (b := 8) rfl rfl) (by omega) (by omega))), (cj (zBe (a := n / 8) (b := 15) rfl rfl)), (cq (zBc (zAP rfl (by omega)))), (cj (zB9 (zCn (a := n) (b := 128) rfl rfl) (by omega) (by omega))), (cj (zBe (a := n / 128) (b := 2) rfl rfl)), (cj (zB9 (addN (a := 1) (b := n / 128 % 2) rfl rfl) (by omega) (by omega))), (cw (zBc (zAP rfl (by omega)))), (cq (zBH (mulN (a := 64) (b := n / 8 % 15) rfl rfl) (by omega) (by omega))), (cw (zD5 (mulN (a := 64) (b := 1 + n / 128 % 2) rfl rfl) (by omega) (by omega))), (cb (eqF rfl rfl (by omega))), (cb (eqF rfl rfl (by omega))), (cj (zBe (a := n) (b := 97) rfl rfl)), cb (eqT (zBc h97) rfl (by omega)), (by rfl)⟩)
  (by kernel_rfl) Y K hK
theorem rq_wn (d : List Nat) (hr : RR (fFW2 n) = some (V.str d)) (h1 : t = 1) (h97 : n % 97 ≠ 0) (K : V → Mem → Prop) (hK : ∀ mm, K (V.agg [vh 0, vh ↑t, vq 0, vq ↑(64 * (n / 8 % 15)), vw ↑(64 * (1 + n / 128 % 2)), V.str d]) mm) :
   zAD pA (fFW3 RR) Y c12 [vh ↑n] ⟨0, .leaf⟩ K :=
  zAm ((zAb zAc)) (wt 4 (.fix s6 (vh ↑(n % 8)) (.res (V.ptr 1 (n % 8)) (.res (vh ↑t) (wt 2 (.fix s10 (vh ↑(n / 8)) (wt 1 (.fix s11 (vh ↑(n / 8 % 15)) (wt 1 (.fix s12 (vq ↑(n / 8 % 15)) (wt 3 (.fix s15 (vh ↑(n / 128)) (wt 1 (.fix s16 (vh ↑(n / 128 % 2)) (wt 1 (.fix s17 (vh ↑(1 + n / 128 % 2)) (wt 1 (.fix s18 (vw ↑(1 + n / 128 % 2)) (wt 1 (.fix s13 (vq ↑(64 * (n / 8 % 15))) (.fix s19 (vw ↑(64 * (1 + n / 128 % 2))) (wt 6 (.fix s24 bT (wt 4 (.fix s26 (vh ↑(n % 26)) (wt 1 (.fix s27 (vh ↑(97 + n % 26)) (wt 1 (.fix s28 (vy ↑(97 + n % 26)) (wt 5 (.fix s30 (V.str [97 + n % 26]) (.fix s33 (vi ↑(64 * (1 + n / 128 % 2))) (.lay (Lay.plain (V.str d)) (wt 4 (.fix s41 (vh ↑(n % 97)) (wt 1 (.fix s42 bF .nil)))))))))))))))))))))))))))))))))))))
  (show (vh (Int.tmod (↑n) 8) = vh ↑(n % 8) ∧ zBh 1 (V.slice 1 0 8 8 1) (vh ↑(n % 8)) = some (V.ptr 1 (n % 8)) ∧ nth (fFW0) (n % 8) = some (vh ↑t) ∧ vh (wr IntKind.u16 (Int.tdiv (↑n) 8)) = vh ↑(n / 8) ∧ vh (Int.tmod (↑(n / 8)) 15) = vh ↑(n / 8 % 15) ∧ vq ↑(n / 8 % 15 % 18446744073709551616) = vq ↑(n / 8 % 15) ∧ vh (wr IntKind.u16 (Int.tdiv (↑n) 128)) = vh ↑(n / 128) ∧ vh (Int.tmod (↑(n / 128)) 2) = vh ↑(n / 128 % 2) ∧ vh (wr IntKind.u16 (zCe 1 ↑(n / 128 % 2))) = vh ↑(1 + n / 128 % 2) ∧ vw ↑((1 + n / 128 % 2) % 4294967296) = vw ↑(1 + n / 128 % 2) ∧ vq (wr IntKind.u64 (zH6 64 ↑(n / 8 % 15))) = vq ↑(64 * (n / 8 % 15)) ∧ vw (wr IntKind.u32 (zH6 64 ↑(1 + n / 128 % 2))) = vw ↑(64 * (1 + n / 128 % 2)) ∧ vb (eqI (↑t) 1) = bT ∧ vh (Int.tmod (↑n) 26) = vh ↑(n % 26) ∧ vh (wr IntKind.u16 (zCe 97 ↑(n % 26))) = vh ↑(97 + n % 26) ∧ vy ↑((97 + n % 26) % 256) = vy ↑(97 + n % 26) ∧ V.str [(97 + n % 26) % 256] = V.str [97 + n % 26] ∧ vi (wr IntKind.i64 ↑(64 * (1 + n / 128 % 2))) = vi ↑(64 * (1 + n / 128 % 2)) ∧ fnP (zAi 25 RR la0) 25 (fFW2 n) (V.str d) ∧ (vh (Int.tmod (↑n) 97) = vh ↑(n % 97) ∧ vb (eqI (↑(n % 97)) 0) = bF ∧ rR (V.agg [vh 0, vh ↑t, vq 0, vq ↑(64 * (n / 8 % 15)), vw ↑(64 * (1 + n / 128 % 2)), V.str d]))) from
  ⟨(cj (zBe (a := n) (b := 8) rfl rfl)), (zBm (i := n % 8) rfl (by omega)), hx, (cj (zB9 (zCn (a := n) (b := 8) rfl rfl) (by omega) (by omega))), (cj (zBe (a := n / 8) (b := 15) rfl rfl)), (cq (zBc (zAP rfl (by omega)))), (cj (zB9 (zCn (a := n) (b := 128) rfl rfl) (by omega) (by omega))), (cj (zBe (a := n / 128) (b := 2) rfl rfl)), (cj (zB9 (addN (a := 1) (b := n / 128 % 2) rfl rfl) (by omega) (by omega))), (cw (zBc (zAP rfl (by omega)))), (cq (zBH (mulN (a := 64) (b := n / 8 % 15) rfl rfl) (by omega) (by omega))), (cw (zD5 (mulN (a := 64) (b := 1 + n / 128 % 2) rfl rfl) (by omega) (by omega))), (cb (eqT rfl rfl (by omega))), (cj (zBe (a := n) (b := 26) rfl rfl)), (cj (zB9 (addN (a := 97) (b := n % 26) rfl rfl) (by omega) (by omega))), (cy (zBc (zAP rfl (by omega)))), (congrArg V.str (zAu (zAP rfl (by omega)) rfl)), (ci (zAs rfl (by omega) (by omega))), fun m' K' => fnE hr, ⟨(cj (zBe (a := n) (b := 97) rfl rfl)), cb (eqF rfl rfl (by omega)), (by rfl)⟩⟩)
  (by kernel_rfl) Y K hK
theorem rq_fn (h1 : t = 3) (h97 : n % 97 ≠ 0) (K : V → Mem → Prop) (hK : ∀ mm, K (V.agg [vh 0, vh ↑t, vq 0, vq 0, vw 0, V.str []]) mm) :
   zAD pA (fFW3 RR) Y c12 [vh ↑n] ⟨0, .leaf⟩ K :=
  zAm ((zAb zAc)) (wt 4 (.fix s6 (vh ↑(n % 8)) (.res (V.ptr 1 (n % 8)) (.res (vh ↑t) (wt 2 (.fix s10 (vh ↑(n / 8)) (wt 1 (.fix s11 (vh ↑(n / 8 % 15)) (wt 1 (.fix s12 (vq ↑(n / 8 % 15)) (wt 3 (.fix s15 (vh ↑(n / 128)) (wt 1 (.fix s16 (vh ↑(n / 128 % 2)) (wt 1 (.fix s17 (vh ↑(1 + n / 128 % 2)) (wt 1 (.fix s18 (vw ↑(1 + n / 128 % 2)) (wt 1 (.fix s13 (vq ↑(64 * (n / 8 % 15))) (.fix s19 (vw ↑(64 * (1 + n / 128 % 2))) (wt 6 (.fix s24 bF (wt 3 (.fix s37 bT (wt 8 (.fix s41 (vh ↑(n % 97)) (wt 1 (.fix s42 bF .nil)))))))))))))))))))))))))))))
  (show (vh (Int.tmod (↑n) 8) = vh ↑(n % 8) ∧ zBh 1 (V.slice 1 0 8 8 1) (vh ↑(n % 8)) = some (V.ptr 1 (n % 8)) ∧ nth (fFW0) (n % 8) = some (vh ↑t) ∧ vh (wr IntKind.u16 (Int.tdiv (↑n) 8)) = vh ↑(n / 8) ∧ vh (Int.tmod (↑(n / 8)) 15) = vh ↑(n / 8 % 15) ∧ vq ↑(n / 8 % 15 % 18446744073709551616) = vq ↑(n / 8 % 15) ∧ vh (wr IntKind.u16 (Int.tdiv (↑n) 128)) = vh ↑(n / 128) ∧ vh (Int.tmod (↑(n / 128)) 2) = vh ↑(n / 128 % 2) ∧ vh (wr IntKind.u16 (zCe 1 ↑(n / 128 % 2))) = vh ↑(1 + n / 128 % 2) ∧ vw ↑((1 + n / 128 % 2) % 4294967296) = vw ↑(1 + n / 128 % 2) ∧ vq (wr IntKind.u64 (zH6 64 ↑(n / 8 % 15))) = vq ↑(64 * (n / 8 % 15)) ∧ vw (wr IntKind.u32 (zH6 64 ↑(1 + n / 128 % 2))) = vw ↑(64 * (1 + n / 128 % 2)) ∧ vb (eqI (↑t) 1) = bF ∧ vb (eqI (↑t) 3) = bT ∧ vh (Int.tmod (↑n) 97) = vh ↑(n % 97) ∧ vb (eqI (↑(n % 97)) 0) = bF ∧ rR (V.agg [vh 0, vh ↑t, vq 0, vq 0, vw 0, V.str []])) from
  ⟨(cj (zBe (a := n) (b := 8) rfl rfl)), (zBm (i := n % 8) rfl (by omega)), hx, (cj (zB9 (zCn (a := n) (b := 8) rfl rfl) (by omega) (by omega))), (cj (zBe (a := n / 8) (b := 15) rfl rfl)), (cq (zBc (zAP rfl (by omega)))), (cj (zB9 (zCn (a := n) (b := 128) rfl rfl) (by omega) (by omega))), (cj (zBe (a := n / 128) (b := 2) rfl rfl)), (cj (zB9 (addN (a := 1) (b := n / 128 % 2) rfl rfl) (by omega) (by omega))), (cw (zBc (zAP rfl (by omega)))), (cq (zBH (mulN (a := 64) (b := n / 8 % 15) rfl rfl) (by omega) (by omega))), (cw (zD5 (mulN (a := 64) (b := 1 + n / 128 % 2) rfl rfl) (by omega) (by omega))), (cb (eqF rfl rfl (by omega))), (cb (eqT rfl rfl (by omega))), (cj (zBe (a := n) (b := 97) rfl rfl)), cb (eqF rfl rfl (by omega)), (by rfl)⟩)
  (by kernel_rfl) Y K hK
theorem rq_on (h1 : t ≠ 1) (h3 : t ≠ 3) (h97 : n % 97 ≠ 0) (K : V → Mem → Prop) (hK : ∀ mm, K (V.agg [vh 0, vh ↑t, vq 0, vq ↑(64 * (n / 8 % 15)), vw ↑(64 * (1 + n / 128 % 2)), V.str []]) mm) :
   zAD pA (fFW3 RR) Y c12 [vh ↑n] ⟨0, .leaf⟩ K :=
  zAm ((zAb zAc)) (wt 4 (.fix s6 (vh ↑(n % 8)) (.res (V.ptr 1 (n % 8)) (.res (vh ↑t) (wt 2 (.fix s10 (vh ↑(n / 8)) (wt 1 (.fix s11 (vh ↑(n / 8 % 15)) (wt 1 (.fix s12 (vq ↑(n / 8 % 15)) (wt 3 (.fix s15 (vh ↑(n / 128)) (wt 1 (.fix s16 (vh ↑(n / 128 % 2)) (wt 1 (.fix s17 (vh ↑(1 + n / 128 % 2)) (wt 1 (.fix s18 (vw ↑(1 + n / 128 % 2)) (wt 1 (.fix s13 (vq ↑(64 * (n / 8 % 15))) (.fix s19 (vw ↑(64 * (1 + n / 128 % 2))) (wt 6 (.fix s24 bF (wt 3 (.fix s37 bF (wt 4 (.fix s41 (vh ↑(n % 97)) (wt 1 (.fix s42 bF .nil)))))))))))))))))))))))))))))
  (show (vh (Int.tmod (↑n) 8) = vh ↑(n % 8) ∧ zBh 1 (V.slice 1 0 8 8 1) (vh ↑(n % 8)) = some (V.ptr 1 (n % 8)) ∧ nth (fFW0) (n % 8) = some (vh ↑t) ∧ vh (wr IntKind.u16 (Int.tdiv (↑n) 8)) = vh ↑(n / 8) ∧ vh (Int.tmod (↑(n / 8)) 15) = vh ↑(n / 8 % 15) ∧ vq ↑(n / 8 % 15 % 18446744073709551616) = vq ↑(n / 8 % 15) ∧ vh (wr IntKind.u16 (Int.tdiv (↑n) 128)) = vh ↑(n / 128) ∧ vh (Int.tmod (↑(n / 128)) 2) = vh ↑(n / 128 % 2) ∧ vh (wr IntKind.u16 (zCe 1 ↑(n / 128 % 2))) = vh ↑(1 + n / 128 % 2) ∧ vw ↑((1 + n / 128 % 2) % 4294967296) = vw ↑(1 + n / 128 % 2) ∧ vq (wr IntKind.u64 (zH6 64 ↑(n / 8 % 15))) = vq ↑(64 * (n / 8 % 15)) ∧ vw (wr IntKind.u32 (zH6 64 ↑(1 + n / 128 % 2))) = vw ↑(64 * (1 + n / 128 % 2)) ∧ vb (eqI (↑t) 1) = bF ∧ vb (eqI (↑t) 3) = bF ∧ vh (Int.tmod (↑n) 97) = vh ↑(n % 97) ∧ vb (eqI (↑(n % 97)) 0) = bF ∧ rR (V.agg [vh 0, vh ↑t, vq 0, vq ↑(64 * (n / 8 % 15)), vw ↑(64 * (1 + n / 128 % 2)), V.str []])) from
  ⟨(cj (zBe (a := n) (b := 8) rfl rfl)), (zBm (i := n % 8) rfl (by omega)), hx, (cj (zB9 (zCn (a := n) (b := 8) rfl rfl) (by omega) (by omega))), (cj (zBe (a := n / 8) (b := 15) rfl rfl)), (cq (zBc (zAP rfl (by omega)))), (cj (zB9 (zCn (a := n) (b := 128) rfl rfl) (by omega) (by omega))), (cj (zBe (a := n / 128) (b := 2) rfl rfl)), (cj (zB9 (addN (a := 1) (b := n / 128 % 2) rfl rfl) (by omega) (by omega))), (cw (zBc (zAP rfl (by omega)))), (cq (zBH (mulN (a := 64) (b := n / 8 % 15) rfl rfl) (by omega) (by omega))), (cw (zD5 (mulN (a := 64) (b := 1 + n / 128 % 2) rfl rfl) (by omega) (by omega))), (cb (eqF rfl rfl (by omega))), (cb (eqF rfl rfl (by omega))), (cj (zBe (a := n) (b := 97) rfl rfl)), cb (eqF rfl rfl (by omega)), (by rfl)⟩)
  (by kernel_rfl) Y K hK
end
abbrev fFW1 (e ck : Nat) (d : List Nat) (t of ln : Nat) (dd : List Nat) : List V := [V.agg [vw ↑e, vq ↑ck, V.str d], V.agg [vh 0, vh ↑t, vq 0, vq ↑of, vw ↑ln, V.str dd]]
section
variable (Y : Ys Prop) (e ck t of ln : Nat) (d dd : List Nat) (he : e < 4294967296) (ht : t < 65536) (hof : of ≤ 2000) (hln : ln ≤ 2000) (hdl : d.length ≤ 2000)
include Y e ck t of ln d dd he ht hof hln hdl
theorem rg_9 (he2 : e = 22) (hq : zFn d [] = true) (h : t = 9) (K : V → Mem → Prop) (hK : ∀ mm, K bT mm) :
   zAD pA (zAt pA tb0 la0 5) Y c17 (fFW1 e ck d t of ln dd) ⟨0, .leaf⟩ K :=
  zAm (zAc) (wt 6 (.fix s9 bT (wt 27 (.fix s34 bT (wt 4 (.fix s38 bT .nil))))))
  (show (vb (eqI (↑t) 9) = bT ∧ vb (eqI (↑e) 22) = bT ∧ vb (zFn d []) = bT ∧ rR bT) from
  ⟨(cb (eqT rfl rfl (by omega))), (cb (eqT rfl rfl (by omega))), (cb hq), (by rfl)⟩)
  (by kernel_rfl) Y K hK
theorem rg_1 (he2 : e = 22) (hq : zFn d [] = true) (h : t ≠ 9) (h3 : t ≠ 3) (ho : of = 1) (K : V → Mem → Prop) (hK : ∀ mm, K bT mm) :
   zAD pA (zAt pA tb0 la0 5) Y c17 (fFW1 e ck d t of ln dd) ⟨0, .leaf⟩ K :=
  zAm (zAc) (wt 6 (.fix s9 bF (wt 4 (.fix s13 (vq ↑(of % 64)) (wt 1 (.fix s14 bT (wt 4 (.fix s18 bT (wt 18 (.fix s34 bT (wt 4 (.fix s38 bT .nil))))))))))))
  (show (vb (eqI (↑t) 9) = bF ∧ vq (Int.tmod (↑of) 64) = vq ↑(of % 64) ∧ vb (nB (eqI (↑(of % 64)) 0)) = bT ∧ vb (nB (eqI (↑t) 3)) = bT ∧ vb (eqI (↑e) 22) = bT ∧ vb (zFn d []) = bT ∧ rR bT) from
  ⟨(cb (eqF rfl rfl (by omega))), (cq (zBe (a := of) (b := 64) rfl rfl)), (cb (nn (eqF (zBc (zAP rfl (by omega))) rfl (by omega)))), (cb (nn (eqF rfl rfl (by omega)))), (cb (eqT rfl rfl (by omega))), (cb hq), (by rfl)⟩)
  (by kernel_rfl) Y K hK
theorem rg_3 (he2 : e = 22) (hq : zFn d [] = true) (h3 : t = 3) (ho : of = 1) (K : V → Mem → Prop) (hK : ∀ mm, K bT mm) :
   zAD pA (zAt pA tb0 la0 5) Y c17 (fFW1 e ck d t of ln dd) ⟨0, .leaf⟩ K :=
  zAm (zAc) (wt 6 (.fix s9 bF (wt 4 (.fix s13 (vq ↑(of % 64)) (wt 1 (.fix s14 bT (wt 4 (.fix s18 bF (wt 6 (.fix s24 bT (wt 4 (.fix s28 bT (wt 8 (.fix s34 bT (wt 4 (.fix s38 bT .nil))))))))))))))))
  (show (vb (eqI (↑t) 9) = bF ∧ vq (Int.tmod (↑of) 64) = vq ↑(of % 64) ∧ vb (nB (eqI (↑(of % 64)) 0)) = bT ∧ vb (nB (eqI (↑t) 3)) = bF ∧ vb (eqI (↑t) 3) = bT ∧ vb (nB (eqI (↑of) 0)) = bT ∧ vb (eqI (↑e) 22) = bT ∧ vb (zFn d []) = bT ∧ rR bT) from
  ⟨(cb (eqF rfl rfl (by omega))), (cq (zBe (a := of) (b := 64) rfl rfl)), (cb (nn (eqF (zBc (zAP rfl (by omega))) rfl (by omega)))), (cb (nn (eqT rfl rfl (by omega)))), (cb (eqT rfl rfl (by omega))), (cb (nn (eqF rfl rfl (by omega)))), (cb (eqT rfl rfl (by omega))), (cb hq), (by rfl)⟩)
  (by kernel_rfl) Y K hK
theorem rg_r (f : Nat) (he2 : e = 0) (ho : of = 64 * f) (h : t = 0) (hl : d.length = ln) (K : V → Mem → Prop) (hK : ∀ mm, K bT mm) :
   zAD pA (zAt pA tb0 la0 5) Y c17 (fFW1 e ck d t of ln dd) ⟨0, .leaf⟩ K :=
  zAm (zAc) (wt 6 (.fix s9 bF (wt 4 (.fix s13 (vq ↑(of % 64)) (wt 1 (.fix s14 bF (wt 10 (.fix s24 bF (wt 13 (.fix s42 bT (wt 4 (.fix s45 (vi ↑ln) (wt 4 (.fix s48 bT (wt 5 (.fix s52 (vi ↑ln) (wt 1 (.fix s54 bT .nil))))))))))))))))))
  (show (vb (eqI (↑t) 9) = bF ∧ vq (Int.tmod (↑of) 64) = vq ↑(of % 64) ∧ vb (nB (eqI (↑(of % 64)) 0)) = bF ∧ vb (eqI (↑t) 3) = bF ∧ vb (eqI (↑t) 0) = bT ∧ vi (wr IntKind.i64 ↑ln) = vi ↑ln ∧ vb (eqI (↑e) 0) = bT ∧ vi ↑d.length = vi ↑ln ∧ vb (eqI ↑ln ↑ln) = bT ∧ rR bT) from
  ⟨(cb (eqF rfl rfl (by omega))), (cq (zBe (a := of) (b := 64) rfl rfl)), (cb (nn (eqT rfl rfl (by omega)))), (cb (eqF rfl rfl (by omega))), cb (eqT rfl rfl (by omega)), (ci (zAs rfl (by omega) (by omega))), (cb (eqT rfl rfl (by omega))), (ci (zBc hl)), (cb (eqT rfl rfl (by omega))), (by rfl)⟩)
  (by kernel_rfl) Y K hK
theorem rg_f (f : Nat) (he2 : e = 0) (ho : of = 64 * f) (h : t = 3) (h0 : of = 0) (hl : d.length = 0) (K : V → Mem → Prop) (hK : ∀ mm, K bT mm) :
   zAD pA (zAt pA tb0 la0 5) Y c17 (fFW1 e ck d t of ln dd) ⟨0, .leaf⟩ K :=
  zAm (zAc) (wt 6 (.fix s9 bF (wt 4 (.fix s13 (vq ↑(of % 64)) (wt 1 (.fix s14 bF (wt 10 (.fix s24 bT (wt 4 (.fix s28 bF (wt 9 (.fix s42 bF (wt 4 (.fix s48 bT (wt 5 (.fix s52 (vi ↑0) .nil))))))))))))))))
  (show (vb (eqI (↑t) 9) = bF ∧ vq (Int.tmod (↑of) 64) = vq ↑(of % 64) ∧ vb (nB (eqI (↑(of % 64)) 0)) = bF ∧ vb (eqI (↑t) 3) = bT ∧ vb (nB (eqI (↑of) 0)) = bF ∧ vb (eqI (↑t) 0) = bF ∧ vb (eqI (↑e) 0) = bT ∧ vi ↑d.length = vi ↑0 ∧ rR bT) from
  ⟨(cb (eqF rfl rfl (by omega))), (cq (zBe (a := of) (b := 64) rfl rfl)), (cb (nn (eqT (zBc (zAP rfl (by omega))) rfl (by omega)))), (cb (eqT rfl rfl (by omega))), (cb (nn (eqT rfl rfl (by omega)))), cb (eqF rfl rfl (by omega)), (cb (eqT rfl rfl (by omega))), (ci (zBc hl)), (by rfl)⟩)
  (by kernel_rfl) Y K hK
theorem rg_w (f : Nat) (he2 : e = 0) (ho : of = 64 * f) (h : t ≠ 0) (h3 : t ≠ 3) (h9 : t ≠ 9) (hl : d.length = 0) (K : V → Mem → Prop) (hK : ∀ mm, K bT mm) :
   zAD pA (zAt pA tb0 la0 5) Y c17 (fFW1 e ck d t of ln dd) ⟨0, .leaf⟩ K :=
  zAm (zAc) (wt 6 (.fix s9 bF (wt 4 (.fix s13 (vq ↑(of % 64)) (wt 1 (.fix s14 bF (wt 10 (.fix s24 bF (wt 13 (.fix s42 bF (wt 4 (.fix s48 bT (wt 5 (.fix s52 (vi ↑0) .nil))))))))))))))
  (show (vb (eqI (↑t) 9) = bF ∧ vq (Int.tmod (↑of) 64) = vq ↑(of % 64) ∧ vb (nB (eqI (↑(of % 64)) 0)) = bF ∧ vb (eqI (↑t) 3) = bF ∧ vb (eqI (↑t) 0) = bF ∧ vb (eqI (↑e) 0) = bT ∧ vi ↑d.length = vi ↑0 ∧ rR bT) from
  ⟨(cb (eqF rfl rfl (by omega))), (cq (zBe (a := of) (b := 64) rfl rfl)), (cb (nn (eqT rfl rfl (by omega)))), (cb (eqF rfl rfl (by omega))), cb (eqF rfl rfl (by omega)), (cb (eqT rfl rfl (by omega))), (ci (zBc hl)), (by rfl)⟩)
  (by kernel_rfl) Y K hK
end
end
end Go.Proofs.YtjekgdkaejgpdaaGreat
