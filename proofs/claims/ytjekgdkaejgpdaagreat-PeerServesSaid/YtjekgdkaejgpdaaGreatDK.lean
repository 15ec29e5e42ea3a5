/- Clients as contracts. No condition. -/
import Derived.Test.YtjekgdkaejgpdaaGreatDJ
namespace Go.Proofs.YtjekgdkaejgpdaaGreat
open Go Go.AM
set_option maxRecDepth 100000
set_option maxHeartbeats 4000000
set_option linter.unusedVariables false
set_option linter.unusedSectionVars false
section
variable {P : Program} (hmix : P.follows .mixedOrders = true)
include hmix
theorem feed0f (O : Oks P) (hl : zAv P lbc id) {nm ou : List Nat} {st : Bool} {sz : Int} {q : Nat} {fl : EnG} (h0 : zDd 0 fl = none) {rv : V} {A R : zAe} (b : List Nat) (h : b.length = 0) (hb : b = []) :
  zAq P 7 (zGj nm ou b st sz q (enG .u64 fl) rv A R) :=
 zAl hmix O.o7 (zAn (A := pA) zAX hmix (tbG_ok O) hl 5) (fd_ef Ys.none _ _ _ nm ou st sz q _ rv A R b h (add_nil (by omega)) slc_all (hb ▸ rb_nil (a := 0) (k := 4) (by decide) (by decide) (by decide)) (hb ▸ rb_nil (a := 8) (k := 8) (by decide) (by decide) (by decide)) (lG_none (kd := .u64) (z := .nilptr) h0) (hb ▸ nr_nil))
theorem feed0t (O : Oks P) (hl : zAv P lbc id) {nm ou : List Nat} {st : Bool} {sz : Int} {q : Nat} {fl : EnG} {rv : V} {A R : zAe} (b : List Nat) (h : b.length = 0) :
  zAq P 7 (zGi nm ou b st sz q (enG .u64 fl) rv A R) :=
 zAl hmix O.o7 (zAn (A := pA) zAX hmix (tbG_ok O) hl 5) (fd_et Ys.none _ _ _ nm ou st sz q _ rv A R b h (add_nil (by omega)) slc_all)
theorem ask_con (O : Oks P) {la : CF Prop} (hq : zAv P (zAi 39 rqR la0) id) {nm : List Nat} {st ch : Bool} {sz : Int} {q t of ln : Nat} {d : List Nat} (hq2 : q ≤ 1000) (ht : t < 65536) (ht2 : t ≠ 2) (hof : of ≤ 2000) (hln : ln ≤ 1024) (h6 : t = 1 → d.length = ln) (h7 : t ≠ 1 → d.length = 0)
  {fl : EnG} (h8 : fl.length < 8) (hk : zDd (q + 1) fl = none) :
  zAq P 13 (zEp nm st ch sz q t of ln d (rqL t (q + 1) of ln ++ d) (enG .u64 fl)) := by
 have hcf := zAn (A := pA) zAX hmix (tbA2_ok O) hq 5
 have hd : d.length ≤ 1024 := by
  by_cases h : t = 1
  ·rw [h6 h]; exact hln
  ·rw [h7 h]; exact Nat.zero_le _
 have hr := rqR_y (kd := t) (ck := q + 1) (of := of) (ln := ln) (d := d) ht (by omega) (by omega) (by omega) (by omega) h6 h7
 have hlen := q_len (kd := t) (ck := q + 1) (of := of) (ln := ln) (d := d)
 have hc := add_nil (b := rqL t (q + 1) of ln ++ d) (by omega)
 generalize rqL t (q + 1) of ln ++ d = b at hr hc hlen ⊢
 exact zAl hmix O.o13 hcf (ak_o Ys.none _ nm st ch sz q t of ln hq2 ht ht2 d _ (by rw [zFi]; exact h8) b hr hc (zI3 hk))
theorem askF_con (O : Oks P) (hq : zAv P (zAi 39 rqR la0) id) {nm : List Nat} {st ch : Bool} {sz : Int} {q t of ln : Nat} {d : List Nat} (hq2 : q ≤ 1000) (ht : t < 65536) (ht2 : t ≠ 2) {fl : EnG} (h8 : 8 ≤ fl.length) :
  zAq P 13 ⟨[.ptr 0 0, .agg [.int .u16 0, .int .u16 ((t : Nat) : Int), .int .u64 0, .int .u64 ((of : Nat) : Int), .int .u32 ((ln : Nat) : Int), .str d]], zBs (clO nm [] st ch sz q .nilslice) (.map (enG .u64 fl) q false) .dead .dead, .tuple [.int .u64 0, .int .i64 6], zBs (clO nm [] st ch sz q .nilslice) (.map (enG .u64 fl) q false) .dead .dead, []⟩ :=
 zAl hmix O.o13 (zAn (A := pA) zAX hmix (tbA2_ok O) hq 5) (ak_f Ys.none _ nm st ch sz q t of ln hq2 ht ht2 d _ (by rw [zFi]; exact h8))
theorem say_con (O : Oks P) {nm ou : List Nat} {st ch : Bool} {sz : Int} {q : Nat} {rv : V} {es : List (V × V × Nat)} {R : zAe} :
  zAq P 9 ⟨[.ptr 0 0], zBs (clO nm ou st ch sz q rv) (.map es q false) .dead R, .str ou, zBs (clO nm [] st ch sz q rv) (.map es q false) .dead R, []⟩ :=
 zAl hmix O.o9 (zAn (A := pA) zAX hmix (zFb O) zBl 5) (cl_y Ys.none nm ou st ch sz q rv es R)
theorem replies_con (O : Oks P) {nm ou : List Nat} {st ch : Bool} {sz : Int} {q : Nat} {rv : V} {es : List (V × V × Nat)} {R : zAe} :
  zAq P 16 ⟨[.ptr 0 0], zBs (clO nm ou st ch sz q rv) (.map es q false) .dead R, rv, zBs (clO nm ou st ch sz q .nilslice) (.map es q false) .dead R, []⟩ :=
 zAl hmix O.o16 (zAn (A := pA) zAX hmix (zFb O) zBl 5) (cl_r Ys.none nm ou st ch sz q rv es R)
theorem flight_con (O : Oks P) {nm ou : List Nat} {st ch : Bool} {sz : Int} {q : Nat} {rv : V} {es : List (V × V × Nat)} {R : zAe} :
  zAq P 18 ⟨[.ptr 0 0], zBs (clO nm ou st ch sz q rv) (.map es q false) .dead R, .int .i64 ((es.length : Nat) : Int), zBs (clO nm ou st ch sz q rv) (.map es q false) .dead R, []⟩ :=
 zAl hmix O.o18 (zAn (A := pA) zAX hmix (zFb O) zBl 5) (cl_f Ys.none nm ou st ch sz q rv es R)
theorem over_con (O : Oks P) {nm ou : List Nat} {st ch : Bool} {sz : Int} {q : Nat} {rv : V} {es : List (V × V × Nat)} {R : zAe} :
  zAq P 19 ⟨[.ptr 0 0], zBs (clO nm ou st ch sz q rv) (.map es q false) .dead R, .bool false, zBs (clO nm ou st ch sz q rv) (.map es q false) .dead R, []⟩ :=
 zAl hmix O.o19 (zAn (A := pA) zAX hmix (zFb O) zBl 5) (cl_o Ys.none nm ou st ch sz q rv es R)
end
abbrev clL (mb : Nat) (st : Bool) (ou : List Nat) (q : Nat) : zAe := .cells [.str [97], .bool st, .bool st, .bool true, .bool true, .bool true, .bool true, .int .u64 1024, .str [], .str ou, .map mb, .int .u64 ((q : Nat) : Int), .nilslice] false
section
variable {P : Program} (hmix : P.follows .mixedOrders = true)
include hmix
theorem open_con (O : Oks P) {st : Bool} {q : Nat} : zAq P 38 ⟨[.ptr 0 0], zBs (clO [97] [] st st 1024 q .nilslice) (.map [] q false) .dead .dead, .bool true, zBs (clO [97] [] st st 1024 q .nilslice) (.map [] q false) .dead .dead, []⟩ :=
 zAl hmix O.o38 (zAn (A := pA) zAX hmix (zFb O) zBl 5) (cl_p Ys.none [97] [] st st 1024 q .nilslice [] .dead)
theorem leave_con (O : Oks P) (hq : zAv P (zAi 39 rqR la0) id) {st : Bool} {q : Nat} (hq2 : q ≤ 1000) :
  zAq P 20 ⟨[.ptr 0 0], zBs (clO [97] [] st st 1024 q .nilslice) (.map [] q false) .dead .dead, .tuple [], zBs (clL 1 st (rqL 2 (q + 1) 0 0 ++ []) (q + 1)) (.map [] q false) .dead .dead, []⟩ := by
 have hcf := zAn (A := pA) zAX hmix (tbL_ok O) (zBQ (n := 38) (zAx O.o38) (S := zAq P 38) (fun C h => h) hq) 5
 have hr := rqR_y (kd := 2) (ck := q + 1) (of := 0) (ln := 0) (d := []) (by decide) (by omega) (by decide) (by decide) (by decide) (by decide) (by decide)
 have hlen : (rqL 2 (q + 1) 0 0 ++ []).length = 28 := q_len
 have hop := open_con hmix O (st := st) (q := q)
 have H38 : zAw (zAH 38 (zAq P 38) (zAi 39 rqR la0)) (.func (.func 38) [] []) [.ptr 0 0] (y12 (clO [97] [] st st 1024 q .nilslice) (.map [] q false) .dead .dead .dead .dead .dead .dead .dead .dead .dead .dead) (.bool true) (y12 (clO [97] [] st st 1024 q .nilslice) (.map [] q false) .dead .dead .dead .dead .dead .dead .dead .dead .dead .dead) :=
  zCW (l := [0, 1, 2, 3, 4, 5, 6, 7, 8, 9, 10, 11]) hop (by kernel_rfl) rfl rfl ⟨.inr (by kernel_rfl), .inr (by kernel_rfl), .inl rfl, .inl rfl, .inl rfl, .inl rfl, .inl rfl, .inl rfl, .inl rfl, .inl rfl, .inl rfl, .inl rfl, trivial⟩ (by kernel_rfl) (by kernel_rfl)
 generalize rqL 2 (q + 1) 0 0 ++ [] = b at hr hlen ⊢
 exact zAl hmix O.o20 hcf (cl_l Ys.none _ _ [97] st st 1024 q hq2 b H38 (add_nil (by omega)) hr)
theorem overL_con (O : Oks P) {st : Bool} {ou : List Nat} {q qq : Nat} :
  zAq P 19 ⟨[.ptr 0 0], zBs (clL 1 st ou q) (.map [] qq false) .dead .dead, .bool true, zBs (clL 1 st ou q) (.map [] qq false) .dead .dead, []⟩ :=
 zAl hmix O.o19 (zAn (A := pA) zAX hmix (zFb O) zBl 5) (cl_ov Ys.none [97] ou st st 1024 q .nilslice [] .dead qq)
theorem sayL_con (O : Oks P) {st : Bool} {ou : List Nat} {q qq : Nat} :
  zAq P 9 ⟨[.ptr 0 0], zBs (clL 1 st ou q) (.map [] qq false) .dead .dead, .str ou, zBs (clL 1 st [] q) (.map [] qq false) .dead .dead, []⟩ :=
 zAl hmix O.o9 (zAn (A := pA) zAX hmix (zFb O) zBl 5) (cl_yv Ys.none [97] ou st st 1024 q .nilslice [] .dead qq)
end
end Go.Proofs.YtjekgdkaejgpdaaGreat
