/- A server, as a contract. No condition. -/
import Derived.Test.YtjekgdkaejgpdaaGreatIJ
namespace Go.Proofs.YtjekgdkaejgpdaaGreat
open Go Go.AM
set_option maxRecDepth 100000
set_option maxHeartbeats 4000000
set_option linter.unusedVariables false
set_option linter.unusedSectionVars false
theorem zIH : ∀ (n : Nat) (l : List V), zCk n l = l.drop n
 | 0, l => by cases l <;> rfl
 | n + 1, [] => rfl
 | n + 1, v :: l => zIH n l
theorem takeN_appE {n : Nat} (l t : List V) (h : l.length = n) : takeN n (l ++ t) = some l := by
 subst h
 induction l with
 | nil => cases t <;> rfl
 | cons v l ih => simp only [List.length_cons, List.cons_append, takeN, ih]
theorem zIx (L : List It) (k : Nat) : zAo L = zAo (L.take k) ++ zAo (L.drop k) := by
 rw [← zFA, List.take_append_drop]
theorem ords_take {L : List It} {k : Nat} (hk : k ≤ L.length) : takeN (k * 5) (zAo L) = some (zAo (L.take k)) := by
 rw [zIx L k]
 exact takeN_appE _ _ (by rw [zDF, List.length_take, Nat.min_eq_left hk]; omega)
theorem zHm {L : List It} {k : Nat} (hk : k ≤ L.length) : zCk (k * 5) (zAo L) = zAo (L.drop k) := by
 rw [zIH]
 conv => lhs; rw [zIx L k]
 rw [List.drop_append, List.drop_eq_nil_of_le (by rw [zDF, List.length_take, Nat.min_eq_left hk]; omega), List.nil_append, zDF, List.length_take, Nat.min_eq_left hk, show k * 5 - 5 * k = 0 by omega, List.drop_zero]
theorem ords_all {L : List It} {k : Nat} (hk : k = L.length) : takeN (k * 5) (zAo L) = some (zAo L) := by
 have := ords_take (L := L) (k := k) (by omega)
 rwa [List.take_of_length_le (by omega)] at this
theorem ords_load {L : List It} {k : Nat} {x : It} (h : L[k]? = some x) : zEQ 5 (k * 5) (zAo L) = some (.agg (zGH x.tg x.n)) := by
 have hk := (List.getElem?_eq_some_iff.1 h).1
 have e : L.drop k = x :: L.drop (k + 1) := by
  rw [List.drop_eq_getElem_cons hk]
  congr 1
  exact (List.getElem?_eq_some_iff.1 h).2
 unfold zEQ
 rw [zHm (by omega), e]
 rfl
theorem zIM : ∀ {a b : List V}, zDL a = true → zDL b = true → zDL (a ++ b) = true
 | [], b, _, h => h
 | v :: a, b, h, h2 => by
  simp only [zDL, Bool.and_eq_true] at h
  simp only [List.cons_append, zDL, h.1, Bool.true_and]
  exact zIM h.2 h2
theorem zFz : ∀ L : List It, zDL (zAo L) = true
 | [] => rfl
 | x :: L => zIM (a := zGH x.tg x.n) rfl (zFz L)
theorem growN {sz bytes n k : Nat} {R new : List V} (hl : R.length = k * sz) (h1 : 1 ≤ n) (hs : small (k + n) bytes = true) (ho : zDL new = true) : zBv sz bytes n new 0 k k R = some (R ++ new) := by
 have hn : Nat.ble (k + n) k = false := by
  cases h : Nat.ble (k + n) k with
  | false => rfl
  | true => have := zAA.1 h; omega
 unfold zBv
 rw [show zCk 0 R = R from rfl, zEe R _ hl.symm, hn, hs, ho, zAS (show n ≠ 0 by omega)]
 rfl
theorem zBX {σ : Nat → Nat} (L : List It) (l : Nat) : (zAe.map (enG .i64 (fmL L)) l false).ren σ = .map (enG .i64 (fmL L)) l false := by
 show zAe.map (zCT σ _) l false = _
 rw [fm_ren]
theorem cal43_7 {P : Program} {st : Bool} {l c tg : Nat} {u w : List Nat} {L L2 : List It} {X3 OB OH BX b6 : zAe} (h : zAq P 43 (enC st l c tg u w L L2)) :
  zAw (lfF P) (.func (.func 43) [] []) [.ptr 1 0, .int .i64 ((tg : Nat) : Int), .bool true, .str u] (y7 X3 (zA4 st l (.slice 3 c 0 0 5) 2 [] false) (.map (enG .i64 (fmL L)) l false) OB OH BX b6) (.bool true) (y7 X3 (zA4 st l (.slice 3 c 0 0 5) 2 w false) (.map (enG .i64 (fmL L2)) l false) OB OH BX b6) :=
 zCW (l := [1, 2, 3]) h en_wf rfl rfl ⟨.inr rfl, .inr (by rw [zBX]; rfl), .inl rfl, trivial⟩ rfl
  ((show (enC st l c tg u w L L2).memG (zAJ [1, 2, 3]) (y7 X3 (zA4 st l (.slice 3 c 0 0 5) 2 [] false) (.map (enG .i64 (fmL L)) l false) OB OH BX b6) = (y7 X3 (zA4 st l (.slice 3 c 0 0 5) 2 w false) ((zAe.map (enG .i64 (fmL L2)) l false).ren (Con.tau (enC st l c tg u w L L2) (zAJ [1, 2, 3]) 7)) OB OH BX b6) from by kernel_rfl).trans (by rw [zBX]))
theorem cal43_8 {P : Program} {st : Bool} {l c tg : Nat} {u w : List Nat} {L L2 : List It} {X3 OB OH BX b6 b7 : zAe} (h : zAq P 43 (enC st l c tg u w L L2)) :
  zAw (lfF P) (.func (.func 43) [] []) [.ptr 1 0, .int .i64 ((tg : Nat) : Int), .bool true, .str u] (y8 X3 (zA4 st l (.slice 3 c 0 0 5) 2 [] false) (.map (enG .i64 (fmL L)) l false) OB OH BX b6 b7) (.bool true) (y8 X3 (zA4 st l (.slice 3 c 0 0 5) 2 w false) (.map (enG .i64 (fmL L2)) l false) OB OH BX b6 b7) :=
 zCW (l := [1, 2, 3]) h en_wf rfl rfl ⟨.inr rfl, .inr (by rw [zBX]; rfl), .inl rfl, trivial⟩ rfl
  ((show (enC st l c tg u w L L2).memG (zAJ [1, 2, 3]) (y8 X3 (zA4 st l (.slice 3 c 0 0 5) 2 [] false) (.map (enG .i64 (fmL L)) l false) OB OH BX b6 b7) = (y8 X3 (zA4 st l (.slice 3 c 0 0 5) 2 w false) ((zAe.map (enG .i64 (fmL L2)) l false).ren (Con.tau (enC st l c tg u w L L2) (zAJ [1, 2, 3]) 8)) OB OH BX b6 b7) from by kernel_rfl).trans (by rw [zBX]))
theorem cal43_9 {P : Program} {st : Bool} {l c tg : Nat} {u w : List Nat} {L L2 : List It} {X3 OB OH BX b6 b7 b8 : zAe} (h : zAq P 43 (enC st l c tg u w L L2)) :
  zAw (lfF P) (.func (.func 43) [] []) [.ptr 1 0, .int .i64 ((tg : Nat) : Int), .bool true, .str u] (y9 X3 (zA4 st l (.slice 3 c 0 0 5) 2 [] false) (.map (enG .i64 (fmL L)) l false) OB OH BX b6 b7 b8) (.bool true) (y9 X3 (zA4 st l (.slice 3 c 0 0 5) 2 w false) (.map (enG .i64 (fmL L2)) l false) OB OH BX b6 b7 b8) :=
 zCW (l := [1, 2, 3]) h en_wf rfl rfl ⟨.inr rfl, .inr (by rw [zBX]; rfl), .inl rfl, trivial⟩ rfl
  ((show (enC st l c tg u w L L2).memG (zAJ [1, 2, 3]) (y9 X3 (zA4 st l (.slice 3 c 0 0 5) 2 [] false) (.map (enG .i64 (fmL L)) l false) OB OH BX b6 b7 b8) = (y9 X3 (zA4 st l (.slice 3 c 0 0 5) 2 w false) ((zAe.map (enG .i64 (fmL L2)) l false).ren (Con.tau (enC st l c tg u w L L2) (zAJ [1, 2, 3]) 9)) OB OH BX b6 b7 b8) from by kernel_rfl).trans (by rw [zBX]))
abbrev doC (D D2 : Nat → List Nat) (st : Bool) (l c m NB nn : Nat) (OX : List V) (L L2 : List It) (w : List Nat) : Con := ⟨[.ptr 0 0, .int .i64 ((m : Nat) : Int)], svM D st l false c OX L, .str w,
 [.cells (xL D2 (.ptr 1 0) (.slice NB 0 nn nn 5)) false, zA4 st l (.slice 3 c 0 0 5) 2 [] false, .map (enG .i64 (fmL L2)) l false, .cells OX false, .cells (zAo L) false], [(NB, .cells (zAo L2) false)]⟩
abbrev dC (XL XL3 : List V) (st : Bool) (l c m NB : Nat) (OX HL HN : List V) (fs fs2 : List (V × V × Nat)) (w : List Nat) : Con := ⟨[.ptr 0 0, .int .i64 ((m : Nat) : Int)], [.cells XL false, zA4 st l (.slice 3 c 0 0 5) 2 [] false, .map fs l false, .cells OX false, .cells HL false], .str w, [.cells XL3 false, zA4 st l (.slice 3 c 0 0 5) 2 [] false, .map fs2 l false, .cells OX false, .cells HL false], [(NB, .cells HN false)]⟩
section
variable {P : Program} (hmix : P.follows .mixedOrders = true)
include hmix
theorem ended_con (O : Oks P) (hl : zAv P lbe id) {st : Bool} {l c : Nat} {L L2 : List It} {x : It} {u : List Nat} (hg : zDd x.tg (fmL L) = some (fmE x).2.1) (hd : delG x.tg (fmL L) = fmL L2) (h8 : L2.length < 8) (hl1 : l ≤ 1000) (htg : x.tg ≤ 1000) (hck : x.ck ≤ 1000)
  (hu : if rqT x.n = 0 then u.length = rqN x.n else u = []) (hb : ∀ b ∈ u, b < 256) : ∃ w, w.length ≤ 1000 ∧ zJm st (rqT x.n) x.ck (rqO x.n) (rqN x.n) w 0 u ∧ zAq P 43 (enC st l c x.tg u w L L2) := by
 have hcf := zAn (A := pA) zAX hmix (tbE_ok O) hl 5
 have q0 := nqR_0
 have ht := zBV x.n
 have hof := zC5 x.n
 have hln := zCM x.n
 have lk := lG_some (kd := .i64) (z := .agg [.int .u16 0, .int .u16 0, .int .u64 0, .int .u64 0, .int .u32 0, .str []]) hg
 have hm := dG_some (kd := .i64) hg
 rw [hd] at hm
 have hlen : (enG .i64 (fmL L2)).length = L2.length := by rw [zFi, fmL_len]
 by_cases h0 : rqT x.n = 0
 ·rw [if_pos h0] at hu
  cases st with
  | false =>
   have hrp := rpR_y (e := 0) (ck := x.ck) (d := u) (by decide) (by omega) (by omega)
   have hpl : (rpL 0 x.ck ++ u).length = 16 + u.length := zFy
   refine ⟨_, by omega, .read rfl h0 hu hb, ?_⟩
   generalize rpL 0 x.ck ++ u = w at hrp hpl ⊢
   exact zAl hmix O.o43 hcf (en_r Ys.none _ _ _ _ l (rqT x.n) x.ck (rqO x.n) (rqN x.n) x.tg c u w hl1 ht (by omega) (by omega) hck htg _ _ q0 lk hm (by omega) (add_nil (by omega)) h0 hu hrp)
  | true =>
   have hyl := o_len (of := rqO x.n) (d := u)
   have hdc := dcR_y (ck := x.ck) (of := rqO x.n) (d := u) (by omega) (by omega) (by omega)
   have hcB := cbR_y (f := 1) (kd := 1) (ck := x.ck) (d := ofL (rqO x.n) ++ u) (by decide) (by decide) (by omega) (by omega)
   have hcl : (chL 1 1 x.ck (ofL (rqO x.n) ++ u).length ++ (ofL (rqO x.n) ++ u)).length = 20 + (ofL (rqO x.n) ++ u).length := zHW
   refine ⟨_, by omega, .data rfl h0 hu hb, ?_⟩
   generalize chL 1 1 x.ck (ofL (rqO x.n) ++ u).length ++ (ofL (rqO x.n) ++ u) = w at hcB hcl ⊢
   generalize ofL (rqO x.n) ++ u = y at hdc hcB hcl hyl
   exact zAl hmix O.o43 hcf (en_c Ys.none _ _ _ _ l (rqT x.n) x.ck (rqO x.n) (rqN x.n) x.tg c u w hl1 ht (by omega) (by omega) hck htg _ _ q0 lk hm (by omega) (add_nil (by omega)) y h0 hu hdc hcB)
 ·rw [if_neg h0] at hu
  subst hu
  have hrp := rpR_y (e := 0) (ck := x.ck) (d := []) (by decide) (by omega) (by decide)
  have hpl : (rpL 0 x.ck ++ []).length = 16 := zFy
  refine ⟨_, by omega, .other (e := 0) (by omega) (by decide), ?_⟩
  generalize rpL 0 x.ck ++ [] = w at hrp hpl ⊢
  exact zAl hmix O.o43 hcf (en_w Ys.none _ _ _ _ st l (rqT x.n) x.ck (rqO x.n) (rqN x.n) x.tg c [] w hl1 ht (by omega) (by omega) hck htg _ _ q0 lk hm (by omega) (add_nil (by omega)) h0 hrp)
end
section
variable {P : Program} (hmix : P.follows .mixedOrders = true)
include hmix
theorem does_con (O : Oks P) (hl : zAv P lbe id) (hr : zAv P (zAi 25 rrR la0) id) {D : Nat → List Nat} (hD : DkOk D) {st : Bool} {l c : Nat} {OX : List V} {L : List It} {k m : Nat} {x : It} (hx : L[k]? = some x) (hm : m % L.length = k) (hm1 : m ≤ 1000) (h8 : L.length ≤ 8) (hgd : Good x.n)
  (hg : zDd x.tg (fmL L) = some (fmE x).2.1) (hd : delG x.tg (fmL L) = fmL (L.eraseIdx k)) (hl1 : l ≤ 1000) (htg : x.tg ≤ 1000) (hck : x.ck ≤ 1000) :
  ∃ NB w, (NB = 6 ∨ NB = 7 ∨ NB = 8) ∧ w.length ≤ 1000 ∧ zJm st (rqT x.n) x.ck (rqO x.n) (rqN x.n) w 0 (duS D x.n (rqG x.n)) ∧ zAq P 15 (doC D (dkS D x.n (rqG x.n)) st l c m NB (L.eraseIdx k).length OX L (L.eraseIdx k) w) := by
 have hk := (List.getElem?_eq_some_iff.1 hx).1
 have hlen : (L.eraseIdx k).length + 1 = L.length := by rw [List.length_eraseIdx_of_lt hk]; omega
 have hu : if rqT x.n = 0 then (duS D x.n (rqG x.n)).length = rqN x.n else duS D x.n (rqG x.n) = [] := by
  split
  ·rename_i h0
   have hk1 : kdN x.n = 1 := by show kdT (rqT x.n) = 1; rw [h0]; rfl
   rw [zGk hD hk1]
   have := zGy hgd (by omega)
   show 64 * (rqN x.n / 64) = _
   omega
  ·rename_i h0
   refine zHH (fun h => h0 ?_) _
   rcases zBf x.n with ⟨_, e⟩ | ⟨_, e⟩ | ⟨_, e⟩ | ⟨_, e⟩ | ⟨_, e⟩ <;> first | exact e | (unfold kdN at h; rw [e] at h; exact absurd h (by decide))
 obtain ⟨w, hw, hmsg, hend⟩ := ended_con hmix O hl (st := st) (l := l) (c := c) hg hd (by omega) hl1 htg hck hu (duS_lt hD _)
 have hg2 := zBo (n := 43) (S := zAq P 43) (zAb (n := 25) (S := rrR) zAc)
 have hcf := zAn (A := pA) zAX hmix (tbF_ok O) (zBQ (n := 43) (zAx O.o43) (S := zAq P 43) (fun C h => h) hr) 5
 have hload := ords_load hx
 have hjm : Int.tmod ((m : Nat) : Int) ((L.length : Nat) : Int) = ((k : Nat) : Int) := by rw [← hm]; rfl
 have hfg := zGg hgd
 have hkd := kdT_le x.n
 have e1 := ords_take (L := L) (k := k) (by omega)
 have e2 := zHm (L := L) (k := k + 1) (by omega)
 have hers : L.eraseIdx k = L.take k ++ L.drop (k + 1) := List.eraseIdx_eq_take_drop_succ L k
 have ho2 : zAo (L.eraseIdx k) = zAo (L.take k) ++ zAo (L.drop (k + 1)) := by rw [hers, zFA]
 have htl : (L.take k).length = k := by rw [List.length_take, Nat.min_eq_left (by omega)]
 have hdl : (L.drop (k + 1)).length = L.length - (k + 1) := List.length_drop
 have fin : ∀ {nn : Nat}, nn = (L.eraseIdx k).length → ∀ {NB : Nat}, zAq P 15 (doC D (dkS D x.n (rqG x.n)) st l c m NB nn OX L (L.eraseIdx k) w) → zAq P 15 (doC D (dkS D x.n (rqG x.n)) st l c m NB (L.eraseIdx k).length OX L (L.eraseIdx k) w) := fun h => by rw [h]; exact id
 by_cases hz : k = 0
 ·have hload0 : zEQ 5 0 (zAo L) = some (.agg (zGH x.tg x.n)) := by rw [hz] at hload; exact hload
  have hjm0 : Int.tmod ((m : Nat) : Int) ((L.length : Nat) : Int) = 0 := by rw [hjm, hz]; rfl
  by_cases h1 : L.length = 1
  ·refine ⟨6, w, .inl rfl, hw, hmsg, fin (nn := 0) (by omega) ?_⟩
   have hnil : L.eraseIdx k = [] := List.length_eq_zero_iff.1 (by omega)
   rw [hnil] at hend ⊢
   refine (fun h : zAq P 15 (dC (xL D (.ptr 1 0) (.slice 4 0 L.length L.length 5)) (xL (dkS D x.n (rqG x.n)) (.ptr 1 0) (.slice 6 0 0 0 5)) st l c m 6 OX (zAo L) [] (enG .i64 (fmL L)) (enG .i64 (fmL [])) w) => h) ?_
   have H := does_loop7 (P := P) hD (s := .ptr 1 0) (h := (.slice 6 0 0 0 5)) (OS := zA4 st l (.slice 3 c 0 0 5) 2 [] false) (OM := .map (enG .i64 (fmL L)) l false) (OB := .cells OX false) (OH := .cells (zAo L) false) (b6 := .cells [] false) (tg := x.tg) hgd
   have H43 := cal43_7 (P := P) (X3 := .cells (xL (dkS D x.n (rqG x.n)) (.ptr 1 0) (.slice 6 0 0 0 5)) false) (OB := .cells OX false) (OH := .cells (zAo L) false) (BX := bxO x.tg x.n) (b6 := .cells [] false) hend
   have g1 := x_1 D (.ptr 1 0) (.slice 4 0 L.length L.length 5)
   have g2 := zD4 D (.ptr 1 0) (.slice 4 0 L.length L.length 5)
   have g3 := zH9 D (.ptr 1 0) (.slice 4 0 L.length L.length 5) (.slice 6 0 0 0 5) rfl
   have g4 := x_1 (dkS D x.n (rqG x.n)) (.ptr 1 0) (.slice 6 0 0 0 5)
   have g5 := zD4 (dkS D x.n (rqG x.n)) (.ptr 1 0) (.slice 6 0 0 0 5)
   generalize xL D (.ptr 1 0) (.slice 4 0 L.length L.length 5) = XL at g1 g2 g3 ⊢
   generalize xL D (.ptr 1 0) (.slice 6 0 0 0 5) = XL2 at g3 H
   generalize xL (dkS D x.n (rqG x.n)) (.ptr 1 0) (.slice 6 0 0 0 5) = XL3 at g4 g5 H H43 ⊢
   exact zAl hmix O.o15 hcf (do_a Ys.none _ _ _ _ _ st l m L.length 0 x.tg (kdN x.n) (rqF x.n) (rqG x.n) c (rqD x.n) (duS D x.n (rqG x.n)) w hl1 hm1 (by omega) hjm0 XL XL2 XL3 (zAo L) [] g1 g2 g3 g4 g5 hload0 h1 H H43)
  ·refine ⟨7, w, .inr (.inl rfl), hw, hmsg, fin (nn := 0 + (L.length - 1)) (by omega) ?_⟩
   have hA : takeN ((L.length - 1) * 5) (zCk 5 (zAo L)) = some (zAo (L.eraseIdx k)) := by
    have e3 : zCk 5 (zAo L) = zAo (L.eraseIdx k) := by
     have := zHm (L := L) (k := 1) (by omega)
     rw [show 1 * 5 = 5 from rfl] at this
     rw [this, hz]
     congr 1
     rw [List.eraseIdx_zero, List.drop_one]
    rw [e3]
    exact ords_all (by omega)
   have hgr := growN (sz := 5) (bytes := 48) (n := L.length - 1) (k := 0) (R := []) (new := zAo (L.eraseIdx k)) rfl (by omega) (zG9 (by omega)) (zFz _)
   refine (fun h : zAq P 15 (dC (xL D (.ptr 1 0) (.slice 4 0 L.length L.length 5)) (xL (dkS D x.n (rqG x.n)) (.ptr 1 0) (.slice 7 0 (0 + (L.length - 1)) (0 + (L.length - 1)) 5)) st l c m 7 OX (zAo L) (zAo (L.eraseIdx k)) (enG .i64 (fmL L)) (enG .i64 (fmL (L.eraseIdx k))) w) => h) ?_
   have H := zII (P := P) hD (s := .ptr 1 0) (h := (.slice 7 0 (0 + (L.length - 1)) (0 + (L.length - 1)) 5)) (OS := zA4 st l (.slice 3 c 0 0 5) 2 [] false) (OM := .map (enG .i64 (fmL L)) l false) (OB := .cells OX false) (OH := .cells (zAo L) false) (b6 := .dead) (b7 := .cells (zAo (L.eraseIdx k)) false) (tg := x.tg) hgd
   have H43 := cal43_8 (P := P) (X3 := .cells (xL (dkS D x.n (rqG x.n)) (.ptr 1 0) (.slice 7 0 (0 + (L.length - 1)) (0 + (L.length - 1)) 5)) false) (OB := .cells OX false) (OH := .cells (zAo L) false) (BX := bxO x.tg x.n) (b6 := .dead) (b7 := .cells (zAo (L.eraseIdx k)) false) hend
   have g1 := x_1 D (.ptr 1 0) (.slice 4 0 L.length L.length 5)
   have g2 := zD4 D (.ptr 1 0) (.slice 4 0 L.length L.length 5)
   have g3 := zH9 D (.ptr 1 0) (.slice 4 0 L.length L.length 5) (.slice 7 0 (0 + (L.length - 1)) (0 + (L.length - 1)) 5) rfl
   have g4 := x_1 (dkS D x.n (rqG x.n)) (.ptr 1 0) (.slice 7 0 (0 + (L.length - 1)) (0 + (L.length - 1)) 5)
   have g5 := zD4 (dkS D x.n (rqG x.n)) (.ptr 1 0) (.slice 7 0 (0 + (L.length - 1)) (0 + (L.length - 1)) 5)
   generalize xL D (.ptr 1 0) (.slice 4 0 L.length L.length 5) = XL at g1 g2 g3 ⊢
   generalize xL D (.ptr 1 0) (.slice 7 0 (0 + (L.length - 1)) (0 + (L.length - 1)) 5) = XL2 at g3 H
   generalize xL (dkS D x.n (rqG x.n)) (.ptr 1 0) (.slice 7 0 (0 + (L.length - 1)) (0 + (L.length - 1)) 5) = XL3 at g4 g5 H H43 ⊢
   exact zAl hmix O.o15 hcf (do_c Ys.none _ _ _ _ _ st l m L.length (L.length - 1) x.tg (kdN x.n) (rqF x.n) (rqG x.n) c (rqD x.n) (duS D x.n (rqG x.n)) w hl1 hm1 (by omega) hjm0 XL XL2 XL3 (zAo L) _ g1 g2 g3 g4 g5 hload0 (by omega) (by omega) hA hgr H H43)
 ·by_cases h1 : L.length = k + 1
  ·refine ⟨7, w, .inr (.inl rfl), hw, hmsg, fin (nn := 0 + k) (by omega) ?_⟩
   have e3 : zAo (L.eraseIdx k) = zAo (L.take k) := by
    rw [ho2, List.drop_eq_nil_of_le (by omega)]
    show zAo (L.take k) ++ [] = _
    rw [List.append_nil]
   have hA : takeN (k * 5) (zAo L) = some (zAo (L.eraseIdx k)) := by rw [e3]; exact e1
   have hgr := growN (sz := 5) (bytes := 48) (n := k) (k := 0) (R := []) (new := zAo (L.eraseIdx k)) rfl (by omega) (zG9 (by omega)) (zFz _)
   refine (fun h : zAq P 15 (dC (xL D (.ptr 1 0) (.slice 4 0 L.length L.length 5)) (xL (dkS D x.n (rqG x.n)) (.ptr 1 0) (.slice 7 0 (0 + k) (0 + k) 5)) st l c m 7 OX (zAo L) (zAo (L.eraseIdx k)) (enG .i64 (fmL L)) (enG .i64 (fmL (L.eraseIdx k))) w) => h) ?_
   have H := zII (P := P) hD (s := .ptr 1 0) (h := (.slice 7 0 (0 + k) (0 + k) 5)) (OS := zA4 st l (.slice 3 c 0 0 5) 2 [] false) (OM := .map (enG .i64 (fmL L)) l false) (OB := .cells OX false) (OH := .cells (zAo L) false) (b6 := .dead) (b7 := .cells (zAo (L.eraseIdx k)) false) (tg := x.tg) hgd
   have H43 := cal43_8 (P := P) (X3 := .cells (xL (dkS D x.n (rqG x.n)) (.ptr 1 0) (.slice 7 0 (0 + k) (0 + k) 5)) false) (OB := .cells OX false) (OH := .cells (zAo L) false) (BX := bxO x.tg x.n) (b6 := .dead) (b7 := .cells (zAo (L.eraseIdx k)) false) hend
   have g1 := x_1 D (.ptr 1 0) (.slice 4 0 L.length L.length 5)
   have g2 := zD4 D (.ptr 1 0) (.slice 4 0 L.length L.length 5)
   have g3 := zH9 D (.ptr 1 0) (.slice 4 0 L.length L.length 5) (.slice 7 0 (0 + k) (0 + k) 5) rfl
   have g4 := x_1 (dkS D x.n (rqG x.n)) (.ptr 1 0) (.slice 7 0 (0 + k) (0 + k) 5)
   have g5 := zD4 (dkS D x.n (rqG x.n)) (.ptr 1 0) (.slice 7 0 (0 + k) (0 + k) 5)
   generalize xL D (.ptr 1 0) (.slice 4 0 L.length L.length 5) = XL at g1 g2 g3 ⊢
   generalize xL D (.ptr 1 0) (.slice 7 0 (0 + k) (0 + k) 5) = XL2 at g3 H
   generalize xL (dkS D x.n (rqG x.n)) (.ptr 1 0) (.slice 7 0 (0 + k) (0 + k) 5) = XL3 at g4 g5 H H43 ⊢
   exact zAl hmix O.o15 hcf (do_b Ys.none _ _ _ _ _ st l m L.length 0 k x.tg (kdN x.n) (rqF x.n) (rqG x.n) c (rqD x.n) (duS D x.n (rqG x.n)) w hl1 hm1 (by omega) hk hjm XL XL2 XL3 (zAo L) _ g1 g2 g3 g4 g5 hload (by omega) h1 hA hgr H H43)
  ·refine ⟨8, w, .inr (.inr rfl), hw, hmsg, fin (nn := 0 + k + (L.length - (k + 1))) (by omega) ?_⟩
   have hgr := growN (sz := 5) (bytes := 48) (n := k) (k := 0) (R := []) (new := zAo (L.take k)) rfl (by omega) (zG9 (by omega)) (zFz _)
   have hB : takeN ((L.length - (k + 1)) * 5) (zCk ((k + 1) * 5) (zAo L)) = some (zAo (L.drop (k + 1))) := by
    rw [e2]
    exact ords_all (by rw [hdl])
   have hg4 := growN (sz := 5) (bytes := 48) (n := L.length - (k + 1)) (k := 0 + k) (R := zAo (L.take k)) (new := zAo (L.drop (k + 1))) (by rw [zDF, htl]; omega) (by omega) (zG9 (by omega)) (zFz _)
   rw [← ho2] at hg4
   refine (fun h : zAq P 15 (dC (xL D (.ptr 1 0) (.slice 4 0 L.length L.length 5)) (xL (dkS D x.n (rqG x.n)) (.ptr 1 0) (.slice 8 0 (0 + k + (L.length - (k + 1))) (0 + k + (L.length - (k + 1))) 5)) st l c m 8 OX (zAo L) (zAo (L.eraseIdx k)) (enG .i64 (fmL L)) (enG .i64 (fmL (L.eraseIdx k))) w) => h) ?_
   have H := does_loop9 (P := P) hD (s := .ptr 1 0) (h := (.slice 8 0 (0 + k + (L.length - (k + 1))) (0 + k + (L.length - (k + 1))) 5)) (OS := zA4 st l (.slice 3 c 0 0 5) 2 [] false) (OM := .map (enG .i64 (fmL L)) l false) (OB := .cells OX false) (OH := .cells (zAo L) false) (b6 := .dead) (b7 := .dead) (b8 := .cells (zAo (L.eraseIdx k)) false) (tg := x.tg) hgd
   have H43 := cal43_9 (P := P) (X3 := .cells (xL (dkS D x.n (rqG x.n)) (.ptr 1 0) (.slice 8 0 (0 + k + (L.length - (k + 1))) (0 + k + (L.length - (k + 1))) 5)) false) (OB := .cells OX false) (OH := .cells (zAo L) false) (BX := bxO x.tg x.n) (b6 := .dead) (b7 := .dead) (b8 := .cells (zAo (L.eraseIdx k)) false) hend
   have g1 := x_1 D (.ptr 1 0) (.slice 4 0 L.length L.length 5)
   have g2 := zD4 D (.ptr 1 0) (.slice 4 0 L.length L.length 5)
   have g3 := zH9 D (.ptr 1 0) (.slice 4 0 L.length L.length 5) (.slice 8 0 (0 + k + (L.length - (k + 1))) (0 + k + (L.length - (k + 1))) 5) rfl
   have g4 := x_1 (dkS D x.n (rqG x.n)) (.ptr 1 0) (.slice 8 0 (0 + k + (L.length - (k + 1))) (0 + k + (L.length - (k + 1))) 5)
   have g5 := zD4 (dkS D x.n (rqG x.n)) (.ptr 1 0) (.slice 8 0 (0 + k + (L.length - (k + 1))) (0 + k + (L.length - (k + 1))) 5)
   generalize xL D (.ptr 1 0) (.slice 4 0 L.length L.length 5) = XL at g1 g2 g3 ⊢
   generalize xL D (.ptr 1 0) (.slice 8 0 (0 + k + (L.length - (k + 1))) (0 + k + (L.length - (k + 1))) 5) = XL2 at g3 H
   generalize xL (dkS D x.n (rqG x.n)) (.ptr 1 0) (.slice 8 0 (0 + k + (L.length - (k + 1))) (0 + k + (L.length - (k + 1))) 5) = XL3 at g4 g5 H H43 ⊢
   exact zAl hmix O.o15 hcf (do_d Ys.none _ _ _ _ _ st l m L.length (L.length - (k + 1)) k x.tg (kdN x.n) (rqF x.n) (rqG x.n) c (rqD x.n) (duS D x.n (rqG x.n)) w hl1 hm1 (by omega) hk hjm XL XL2 XL3 (zAo L) _ g1 g2 g3 g4 g5 hload (by omega) (by omega) (by omega) _ _ e1 hgr hB hg4 H H43)
theorem does_none (O : Oks P) (hr : zAv P (zAi 25 rrR la0) id) {D : Nat → List Nat} {st : Bool} {l c m : Nat} {z : Bool} {OX : List V} : zAq P 15 ⟨[.ptr 0 0, .int .i64 ((m : Nat) : Int)], svM D st l z c OX [], .str [], svM D st l z c OX [], []⟩ := by
 have hcf := zAn (A := pA) zAX hmix (tbF_ok O) (zBQ (n := 43) (zAx O.o43) (S := zAq P 43) (fun C h => h) hr) 5
 cases z with
 | true =>
  refine (fun h : ∀ XL : List V, nth XL 1 = some (.ptr 1 0) → nth XL 18 = some .nilslice → zAq P 15 ⟨[.ptr 0 0, .int .i64 ((m : Nat) : Int)], [.cells XL false, zA4 st l .nilslice 2 [] false, .map [] l false, .dead, .dead], .str [], [.cells XL false, zA4 st l .nilslice 2 [] false, .map [] l false, .dead, .dead], []⟩ => h _ (x_1 _ _ _) (zD4 _ _ _)) fun XL h1 h2 => ?_
  exact zAl hmix O.o15 hcf (do_n Ys.none _ _ _ _ _ _ m 0 XL h1 h2)
 | false =>
  refine (fun h : ∀ XL : List V, nth XL 1 = some (.ptr 1 0) → nth XL 18 = some (.slice 4 0 0 0 5) → zAq P 15 ⟨[.ptr 0 0, .int .i64 ((m : Nat) : Int)], [.cells XL false, zA4 st l (.slice 3 c 0 0 5) 2 [] false, .map [] l false, .cells OX false, .cells [] false], .str [], [.cells XL false, zA4 st l (.slice 3 c 0 0 5) 2 [] false, .map [] l false, .cells OX false, .cells [] false], []⟩ => h _ (x_1 _ _ _) (zD4 _ _ _)) fun XL h1 h2 => ?_
  exact zAl hmix O.o15 hcf (do_z Ys.none _ _ _ _ _ _ m 0 XL h1 h2)
end
end Go.Proofs.YtjekgdkaejgpdaaGreat
