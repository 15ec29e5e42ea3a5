/- The law's acts. No condition. -/
import Derived.Test.YtjekgdkaejgpdaaGreatLJ
namespace Go.Proofs.YtjekgdkaejgpdaaGreat
open Go Go.AM
set_option maxRecDepth 100000
set_option maxHeartbeats 4000000
set_option linter.unusedVariables false
set_option linter.unusedSectionVars false
abbrev slR (m11 : Nat) (sa so tv : V) (ak i : Nat) (more : List (Sl × V)) : List (Sl × V) := (s1, sa) :: (s2, so) :: (s7, .ptr 2 0) :: (s8, .ptr 12 0) :: (s10, .map 17) :: (s11, .map m11) :: (s12, tv) :: (s13, .int .i64 ((ak : Nat) : Int)) :: (s14, .int .i64 ((i : Nat) : Int)) :: more
theorem fit3 {q : List Nat} {m : Mem} {L : List It} {k : Nat} (hq : zAJ q 4 = 4 ∧ zAJ q 5 = 5 ∧ zAJ q 6 = 6 ∧ zAJ q 7 = 7 ∧ zAJ q 8 = 8 ∧ zAJ q 9 = 9 ∧ zAJ q 10 = 10 ∧ zAJ q 11 = 11) (hp : ∀ y ∈ L, y.p < 8) (h : m.get (zAJ q 3) = some (.map (enG .u64 (fL (fun p => 4 + p) L)) k false)) : m.get (zAJ q 3) = some (.map (enG .u64 (fL (fun p => zAJ q (4 + p)) L)) k false) := by
 rw [h, zGX (f := fun p => zAJ q (4 + p)) (g := fun p => 4 + p) fun y hy => ?_]
 obtain ⟨q0, q1, q2, q3, q4, q5, q6, q7⟩ := hq
 show zAJ q (4 + y.p) = 4 + y.p
 rcases k8 (hp y hy) with e | e | e | e | e | e | e | e <;> rw [e] <;> assumption
theorem zDh {sa so : V} (va : LowV sa) (vo : LowV so) {q : List Nat} {m11 ak i : Nat} {tv tv' : V} {more more' : List (Sl × V)} (hq : q.take 2 = [0, 1]) (h2 : (V.ptr 2 0).back q = .ptr 2 0) (h12 : (V.ptr 12 0).back q = .ptr 12 0) (h17 : (V.map 17).back q = .map 17) (h18 : (V.map m11).back q = .map 18) (ht : tv.back q = tv') (hm : backS q more = more') :
  backS q (slR m11 sa so tv ak i more) = slW sa so tv' ak i more' := by
 show (s1, sa.back q) :: (s2, so.back q) :: (s7, (V.ptr 2 0).back q) :: (s8, (V.ptr 12 0).back q) :: (s10, (V.map 17).back q) :: (s11, (V.map m11).back q) :: (s12, tv.back q) :: (s13, .int .i64 ((ak : Nat) : Int)) :: (s14, .int .i64 ((i : Nat) : Int)) :: backS q more = _
 rw [va q hq, vo q hq, h2, h12, h17, h18, ht, hm]
theorem zEf {q : List Nat} {b b' : Nat} {tl : List (List Nat)} (h : ∀ o n c z, (V.slice b o n c z).back q = .slice b' o n c z) : (tV b tl).back q = tV b' tl := by
 unfold tV; split
 ·rfl
 ·exact h _ _ _ _
theorem lenLV_hv (z : Bool) (n b : Nat) (h : z = true → n = 0) : zBN (hvV z n b) = some (.int .i64 ((n : Nat) : Int)) := by
 cases z with
 | false => rfl
 | true => rw [h rfl]; rfl
def Near (oa oo : zAe) (st : Bool) (g : Gs) (L : List (Sl × V)) (T : zAa) (m : Mem) : Prop := (zAG T L ∧ m = gM oa oo st g) ∨ ∃ (q : List Nat) (L0 : List (Sl × V)), RenM 2 q m (gM oa oo st g) ∧ zAG T L0 ∧ backS q L0 = L
theorem nearN {P : Program} {cf : Ys Prop → CF Prop} {Y : Ys Prop} {oa oo : zAe} {st : Bool} {g : Gs} {L : List (Sl × V)} {T : zAa} {m : Mem} {c : zAz} {K : Ex → zAa → Mem → Prop} (h : Near oa oo st g L T m) (hc : ∀ T', zAG T' L → zAR P cf Y 2 c T' (gM oa oo st g) K) : zAR P cf Y 2 c T m K := by
 rcases h with ⟨h1, rfl⟩ | ⟨q, L0, h1, h2, h3⟩
 ·exact hc T h1
 ·exact renN h1 h2 fun T' hT' => hc T' (h3 ▸ hT')
def TRel (D : Nat → List Nat) (L : List It) (ak n : Nat) (al : EnG) (ca : Nat) (tl : List (List Nat)) (al' : EnG) (ca' : Nat) (tl' : List (List Nat)) : Prop :=
 (al' = al ∧ ca' = ca ∧ tl' = tl) ∨ (L = [] ∧ rqT n = 0 ∧ Good n ∧ al' = al ++ [(ak + 1, .int .i64 (((tl.length + 1 : Nat)) : Int), ca)] ∧ ca' = ca + 1 ∧ tl' = tl ++ [duS D n (rqG n)])
theorem sl_x {D : Nat → List Nat} {s h : V} {f g : Nat} (hf : f + g ≤ 16) : slcAV 16 1 12 2 f (f + g) 16 (xL D s h) = some (.slice 12 (2 + f * 1) g (16 - f) 1) := by
 unfold slcAV slice3
 rw [zAA.2 (by omega), zAA.2 hf, zAA.2 (Nat.le_refl 16), show (xL D s h).length = 19 from rfl, show f + g - f = g by omega]
 rfl
theorem joinM_y {m : Mem} {b o len : Nat} {cs vs : List V} {ro : Bool} {t : List Nat} (h1 : m.get b = some (.cells cs ro)) (h2 : takeN len (zCk o cs) = some vs) (h3 : joinV vs = some t) (h4 : 1 ≤ len) (h5 : t.length ≤ 1000) (h6 : len ≤ 1000) : joinM m b o len = some t := by
 unfold joinM
 rw [h1]
 simp only [h2, h3]
 rw [zAA.2 h4, zAA.2 (show t.length ≤ 140737488355328 by omega), zAA.2 (show len ≤ 140737488355328 by omega)]
 rfl
theorem k15 {k : Nat} (h : k ≤ 14) : k = 0 ∨ k = 1 ∨ k = 2 ∨ k = 3 ∨ k = 4 ∨ k = 5 ∨ k = 6 ∨ k = 7 ∨ k = 8 ∨ k = 9 ∨ k = 10 ∨ k = 11 ∨ k = 12 ∨ k = 13 ∨ k = 14 := by omega
theorem x_two (D : Nat → List Nat) (s h : V) {f : Nat} (hf : f ≤ 14) : takeN 2 (zCk (2 + f * 1) (xL D s h)) = some [V.str (D f), V.str (D (f + 1))] := by
 rcases k15 hf with rfl | rfl | rfl | rfl | rfl | rfl | rfl | rfl | rfl | rfl | rfl | rfl | rfl | rfl | rfl <;> kernel_rfl
theorem x_one (D : Nat → List Nat) (s h : V) {f : Nat} (hf : f ≤ 14) : takeN 1 (zCk (2 + f * 1) (xL D s h)) = some [V.str (D f)] := by
 rcases k15 hf with rfl | rfl | rfl | rfl | rfl | rfl | rfl | rfl | rfl | rfl | rfl | rfl | rfl | rfl | rfl <;> kernel_rfl
theorem join_x {D : Nat → List Nat} (hD : DkOk D) {n : Nat} (h : rqT n = 0) (hg : Good n) {m : Mem} {s hh : V} (hm : m.get 12 = some (.cells (xL D s hh) false)) : joinM m 12 (2 + rqF n * 1) (rqG n) = some (duS D n (rqG n)) := by
 have hk : kdN n = 1 := by show kdT (rqT n) = 1; rw [h]; rfl
 have hr := zGy hg (by omega)
 have hgg : rqG n = 1 ∨ rqG n = 2 := by show rqN n / 64 = 1 ∨ rqN n / 64 = 2; omega
 have hf : rqF n ≤ 14 := (zGg hg).2.2
 have e0 := hD.len (rqF n)
 have e1 := hD.len (rqF n + 1)
 rcases hgg with e | e
 ·rw [e]
  have hd : duS D n 1 = D (rqF n) ++ [] := by
   show (if kdN n = 1 then [] ++ D (rqF n + 0) else []) = _
   rw [if_pos hk, List.nil_append, List.append_nil, Nat.add_zero]
  rw [hd]
  exact joinM_y hm (x_one D s hh hf) rfl (by decide) (by rw [List.append_nil]; omega) (by decide)
 ·rw [e]
  have hd : duS D n 2 = D (rqF n) ++ (D (rqF n + 1) ++ []) := by
   show (if kdN n = 1 then (if kdN n = 1 then [] ++ D (rqF n + 0) else []) ++ D (rqF n + 1) else _) = _
   rw [if_pos hk, if_pos hk, List.nil_append, List.append_nil, Nat.add_zero]
  rw [hd]
  exact joinM_y hm (x_two D s hh hf) rfl (by decide) (by rw [List.append_nil, List.length_append]; omega) (by decide)
theorem growS {R : List (List Nat)} {t : List Nat} (h : R.length ≤ 100) : zBv 1 16 1 [.str t] 0 R.length R.length (R.map .str) = some ((R ++ [t]).map .str) := by
 rw [List.map_append]
 refine growG (by rw [List.length_map]; omega) ?_ rfl
 unfold small
 simp only [Bool.and_eq_true]
 exact ⟨zAA.2 (by omega), zAA.2 (by omega)⟩
section
variable {P : Program} (k : zGN P) {sa so : V} {oa oo : zAe} {st : Bool} (va : LowV sa) (vo : LowV so) (h0 : Low oa) (h1 : Low oo)
include k va vo h0 h1
theorem ask6 {L : List It} {A : Nat → zAe} {D : Nat → List Nat} {l : Nat} {z : Bool} {c : Nat} {OX : List V} {al : EnG} {ca : Nat} {tl : List (List Nat)} {ak i n : Nat} {x : It} {ou : List Nat} (hx : x.ck = ak + 1) (hz : z = true → L = []) (hD : DkOk D) (hL : L.length ≤ 8) (hak : ak ≤ 99) (hp : ∀ y ∈ L ++ [x], y.p < 8) (lowA : ∀ j, Low (A j)) (hOX : pls OX) (hal : PlE al) (hkal : ∀ e ∈ al, e.1 ≠ ak + 1) (htl : tl.length ≤ ak)
  {T : zAa} (hT : zAG T (slW sa so (tV 19 tl) ak i [(s15, .ptr 21 0), (s16, .int .u64 (((ak + 1 : Nat)) : Int)), (s17, .int .i64 0)])) {K : Ex → zAa → Mem → Prop} {cc : zAz}
  (hc : ∀ al' ca' tl', TRel D L ak n al ca tl al' ca' tl' → ∀ T', zAG T' (slW sa so (tV 19 tl') ak i [(s15, .ptr 21 0), (s16, .int .u64 (((ak + 1 : Nat)) : Int)), (s17, .int .i64 0)]) → zAR P (cfL P) Ys.none 2 cc T' (gB oa oo st ⟨(L ++ [x]), L, L, A, D, (ak + 1), ak, l, z, c, OX, ou, [], .dead, al', ca', tl'⟩ (bxN n)) K) :
  zAR P (cfL P) Ys.none 2 (.seq c3q6 cc) T (gB oa oo st ⟨(L ++ [x]), L, L, A, D, (ak + 1), ak, l, z, c, OX, ou, [], .dead, al, ca, tl⟩ (bxN n)) K := by
 have hof := zC5 n
 have hln := zCM n
 have hes : (enG .u64 (oL L)).length ≤ 1000 := by rw [zBn]; omega
 by_cases hL0 : L = []
 ·subst hL0
  have he : (enG .u64 (oL [])).length = 0 := rfl
  have hh : zBN (hvV z ([] : List It).length 16) = some (.int .i64 0) := lenLV_hv z 0 16 fun _ => rfl
  by_cases ht : rqT n = 0
  ·by_cases hg : Good n
   ·have hr := zGy hg (by omega)
    have hgg := zGg hg
    have hj := join_x (m := (y22 oa oo (cB st ou (ak + 1) 3 .nilslice) (.map (enG .u64 (fL (fun p => 4 + p) ([] ++ [x]))) (ak + 1) false) (A 0) (A 1) (A 2) (A 3) (A 4) (A 5) (A 6) (A 7) (.cells (xL D (.ptr 13 0) (hvV z ([] : List It).length 16)) false) (zA4 st l (ovV z c 15) 14 [] false) (.map (enG .i64 (fmL ([] : List It))) l false) (dO z OX) (dO z (zAo ([] : List It))) (.map (enG .u64 (oL ([] : List It))) ak false) (.map (enG .u64 al) ca false) (tO tl) .dead (bxN n))) hD ht hg (s := .ptr 13 0) (hh := hvV z ([] : List It).length 16) (by kernel_rfl)
    have hfk := zI3 (kd := .u64) (zEI hkal)
    have hal2 : enG .u64 (al ++ [(ak + 1, .int .i64 (((tl.length + 1 : Nat)) : Int), ca)]) = enG .u64 al ++ [(.int .u64 (((ak + 1 : Nat)) : Int), .int .i64 (((tl.length + 1 : Nat)) : Int), ca)] := by rw [zJa]; rfl
    have hlow : LowG oa oo ⟨([] ++ [x]), [], [], A, D, (ak + 1), ak, l, z, c, OX, ou, [], .dead, (al ++ [(ak + 1, .int .i64 (((tl.length + 1 : Nat)) : Int), ca)]), (ca + 1), (tl ++ [duS D n (rqG n)])⟩ := by
     refine ⟨h0, h1, lowA, hOX, fun e he => ?_, Low.dead, hp⟩
     rcases List.mem_append.1 he with he | he
     ·exact hal e he
     ·simp at he; subst he; exact ⟨fun _ => rfl, fun _ => rfl⟩
    have hcc := hc (al ++ [(ak + 1, .int .i64 (((tl.length + 1 : Nat)) : Int), ca)]) (ca + 1) (tl ++ [duS D n (rqG n)]) (.inr ⟨rfl, ht, hg, rfl, rfl, rfl⟩)
    have hO : tO (tl ++ [duS D n (rqG n)]) = .cells ((tl ++ [duS D n (rqG n)]).map .str) false := tO_snoc _ _
    have hV : tV 23 (tl ++ [duS D n (rqG n)]) = .slice 23 0 (tl.length + 1) (tl.length + 1) 1 := tV_snoc _ _ _
    have hVb : (tV 23 (tl ++ [duS D n (rqG n)])).back [0, 1, 2, 3, 4, 5, 6, 7, 8, 9, 10, 11, 12, 13, 14, 15, 16, 17, 18, 23, 20, 21] = tV 19 (tl ++ [duS D n (rqG n)]) := zEf fun _ _ _ _ => rfl
    have fin : ∀ T2 : zAa, zAG T2 (slR 18 sa so (tV 23 (tl ++ [duS D n (rqG n)])) ak i [(s15, .ptr 21 0), (s16, .int .u64 (((ak + 1 : Nat)) : Int)), (s17, .int .i64 0)]) → zAR P (cfL P) Ys.none 2 cc T2 (y24 oa oo (cB st ou (ak + 1) 3 .nilslice) (.map (enG .u64 (fL (fun p => 4 + p) ([] ++ [x]))) (ak + 1) false) (A 0) (A 1) (A 2) (A 3) (A 4) (A 5) (A 6) (A 7) (.cells (xL D (.ptr 13 0) (hvV z ([] : List It).length 16)) false) (zA4 st l (ovV z c 15) 14 [] false) (.map (enG .i64 (fmL ([] : List It))) l false) (dO z OX) (dO z (zAo ([] : List It))) (.map (enG .u64 (oL ([] : List It))) ak false) (.map (enG .u64 al ++ [(.int .u64 (((ak + 1 : Nat)) : Int), .int .i64 (((tl.length + 1 : Nat)) : Int), ca)]) (ca + 1) false) .dead .dead (bxN n) (.cells [.str (duS D n (rqG n))] false) (.cells ((tl ++ [duS D n (rqG n)]).map .str) false)) K := by
     intro T2 hT2
     have hfit : Fits oa oo st ⟨([] ++ [x]), [], [], A, D, (ak + 1), ak, l, z, c, OX, ou, [], .dead, (al ++ [(ak + 1, .int .i64 (((tl.length + 1 : Nat)) : Int), ca)]), (ca + 1), (tl ++ [duS D n (rqG n)])⟩ (y24 oa oo (cB st ou (ak + 1) 3 .nilslice) (.map (enG .u64 (fL (fun p => 4 + p) ([] ++ [x]))) (ak + 1) false) (A 0) (A 1) (A 2) (A 3) (A 4) (A 5) (A 6) (A 7) (.cells (xL D (.ptr 13 0) (hvV z ([] : List It).length 16)) false) (zA4 st l (ovV z c 15) 14 [] false) (.map (enG .i64 (fmL ([] : List It))) l false) (dO z OX) (dO z (zAo ([] : List It))) (.map (enG .u64 (oL ([] : List It))) ak false) (.map (enG .u64 al ++ [(.int .u64 (((ak + 1 : Nat)) : Int), .int .i64 (((tl.length + 1 : Nat)) : Int), ca)]) (ca + 1) false) .dead .dead (bxN n) (.cells [.str (duS D n (rqG n))] false) (.cells ((tl ++ [duS D n (rqG n)]).map .str) false)) (zAJ [0, 1, 2, 3, 4, 5, 6, 7, 8, 9, 10, 11, 12, 13, 14, 15, 16, 17, 18, 23, 20, 21]) :=
      ⟨by kernel_rfl, by kernel_rfl, by kernel_rfl, fit3 ⟨rfl, rfl, rfl, rfl, rfl, rfl, rfl, rfl⟩ hp (by kernel_rfl), fun j hj => by rcases k8 hj with rfl | rfl | rfl | rfl | rfl | rfl | rfl | rfl <;> exact .inl (by kernel_rfl), by kernel_rfl, by kernel_rfl, by kernel_rfl, by kernel_rfl, by kernel_rfl, by kernel_rfl, by rw [← hal2]; kernel_rfl, by rw [hO]; kernel_rfl, .inl (by kernel_rfl)⟩
     refine renN (ren_b rfl rfl hlow hfit (low_bx n) (by kernel_rfl)) hT2 fun T3 hT3 => hcc T3 ?_
     rw [zDh va vo rfl rfl rfl rfl rfl hVb rfl] at hT3
     exact hT3
    have htl2 : tl.length ≤ 100 := by omega
    by_cases htn : tl = []
    ·subst htn
     have hcal := up14 (P := P) (cal_Join (n := 14) (last := la0) (c := 16 - rqF n) hj)
     refine zDN (l1 := slR 18 sa so (.slice 23 0 1 1 1) ak i [(s15, .ptr 21 0), (s16, .int .u64 (((ak + 1 : Nat)) : Int)), (s17, .int .i64 0)]) (fun K' hK' => w6a _ _ (zBb P) _ _ _ _ _ _ _ _ _ _ _ _ _ _ _ _ _  sa so ak i _ ak hes (rqT n) (rqO n) (rqN n) (rqD n) (zBV n) (by omega) (by omega) _ _ (zD4 D (.ptr 13 0) (hvV z ([] : List It).length 16)) hh (ak + 1) (rqF n) (rqG n) 0 ca _ (enG .u64 al) he ht (by show rqO n = 64 * (rqO n / 64); omega) (by show rqN n = 64 * (rqN n / 64); omega) (by show 1 ≤ rqN n / 64; omega) hgg.1 hgg.2.2 (by decide) (by omega) hfk (sl_x hgg.2.1) rfl hcal T hT K' hK') fun T1 hT1 => ?_
     exact fin T1 (by rw [hV]; exact hT1)
    ·obtain ⟨t0, tl0, rfl⟩ := List.exists_cons_of_ne_nil htn
     have hcal := up14 (P := P) (cal_Join (n := 14) (last := la0) (c := 16 - rqF n) hj)
     refine zDN (l1 := slR 18 sa so (.slice 23 0 ((t0 :: tl0).length + 1) ((t0 :: tl0).length + 1) 1) ak i [(s15, .ptr 21 0), (s16, .int .u64 (((ak + 1 : Nat)) : Int)), (s17, .int .i64 0)]) (fun K' hK' => w6b _ _ (zBb P) _ _ _ _ _ _ _ _ _ _ _ _ _ _ _ _ _  sa so ak i _ ak hes (rqT n) (rqO n) (rqN n) (rqD n) (zBV n) (by omega) (by omega) _ _ (zD4 D (.ptr 13 0) (hvV z ([] : List It).length 16)) hh (ak + 1) (rqF n) (rqG n) (t0 :: tl0).length ca _ (enG .u64 al) he ht (by show rqO n = 64 * (rqO n / 64); omega) (by show rqN n = 64 * (rqN n / 64); omega) (by show 1 ≤ rqN n / 64; omega) hgg.1 hgg.2.2 htl2 (by omega) hfk (sl_x hgg.2.1) ((t0 :: tl0).map .str) _ (growS htl2) hcal T hT K' hK') fun T1 hT1 => ?_
     exact fin T1 (by rw [hV]; exact hT1)
   ·have ho : rqO n = 1 := by
     have h97 : n % 97 = 0 := by
      by_cases h : n % 97 = 0
      ·exact h
      ·exact absurd ⟨h, fun h7 => by rcases zBf n with ⟨_, e⟩ | ⟨_, e⟩ | ⟨_, e⟩ | ⟨_, e⟩ | ⟨_, e⟩ <;> omega⟩ hg
     unfold rqO; rw [if_pos h97]
    exact zDN (fun K' hK' => w6o _ _ (zBb P) _ _ _ _ _ _ _ _ _ _ _ _ _ _ _ _ _ _ _  sa so _ ak i _ ak hes (rqT n) (rqO n) (rqN n) (rqD n) (zBV n) (by omega) (by omega) _ _ (zD4 D (.ptr 13 0) (hvV z ([] : List It).length 16)) hh (ak + 1) he ht ho T hT K' hK') fun T1 hT1 => hc al ca tl (.inl ⟨rfl, rfl, rfl⟩) T1 hT1
  ·exact zDN (fun K' hK' => w6t _ _ (zBb P) _ _ _ _ _ _ _ _ _ _ _ _ _ _ _ _ _ _ _  sa so _ ak i _ ak hes (rqT n) (rqO n) (rqN n) (rqD n) (zBV n) (by omega) (by omega) _ _ (zD4 D (.ptr 13 0) (hvV z ([] : List It).length 16)) hh (ak + 1) he ht T hT K' hK') fun T1 hT1 => hc al ca tl (.inl ⟨rfl, rfl, rfl⟩) T1 hT1
 ·have he : 1 ≤ (enG .u64 (oL L)).length := by rw [zBn]; exact List.length_pos_iff.2 hL0
  exact zDN (fun K' hK' => w6n _ _ (zBb P) _ _ _ _ _ _ _ _ _ _ _ _ _ _ _ _ _ _ _ _  sa so _ ak i _ ak hes (rqT n) (rqO n) (rqN n) (rqD n) (zBV n) (by omega) (by omega) (ak + 1) he T hT K' hK') fun T1 hT1 => hc al ca tl (.inl ⟨rfl, rfl, rfl⟩) T1 hT1
end
theorem zEu {sa so tv : V} {ak i : Nat} {more : List (Sl × V)} {T : zAa} (h : zAG T (slW sa so tv ak i more)) : zAG T (slW sa so tv ak i []) := ⟨h.1, h.2.1, h.2.2.1, h.2.2.2.1, h.2.2.2.2.1, h.2.2.2.2.2.1, h.2.2.2.2.2.2.1, h.2.2.2.2.2.2.2.1, h.2.2.2.2.2.2.2.2.1, trivial⟩
theorem zFs (A : Nat → zAe) (p : Nat) (o : zAe) : zA5 A p o p = o := if_pos rfl
theorem zFa (A : Nat → zAe) {p j : Nat} (o : zAe) (h : j ≠ p) : zA5 A p o j = A j := if_neg h
theorem fL_len' (f : Nat → Nat) (L : List It) : (enG .u64 (fL f L)).length = L.length := by rw [zFi, fL_len]
section
variable {P : Program} (k : zGN P) {sa so : V} {oa oo : zAe} {st : Bool} (va : LowV sa) (vo : LowV so) (h0 : Low oa) (h1 : Low oo)
include k va vo h0 h1
theorem ask61 {L : List It} {A : Nat → zAe} {D : Nat → List Nat} {l : Nat} {z : Bool} {c : Nat} {OX : List V} {al : EnG} {ca : Nat} {tl : List (List Nat)} {ak i n : Nat} {x : It} {ou : List Nat} (hx : x.ck = ak + 1) (hn : x.n = n) (hL : L.length ≤ 8) (hak : ak ≤ 99) (hck : ∀ y ∈ L, y.ck ≠ ak + 1)
  {T : zAa} (hT : zAG T (slW sa so (tV 19 tl) ak i [(s15, .ptr 21 0), (s16, .int .u64 (((ak + 1 : Nat)) : Int)), (s17, .int .i64 0)])) {K : Ex → zAa → Mem → Prop} {cc : zAz}
  (hc : ∀ T', zAG T' (slW sa so (tV 19 tl) ak i [(s15, .ptr 21 0), (s16, .int .u64 (((ak + 1 : Nat)) : Int))]) → zAR P (cfL P) Ys.none 2 cc T' (gB oa oo st ⟨(L ++ [x]), L, (L ++ [x]), A, D, (ak + 1), (ak + 1), l, z, c, OX, ou, [], .dead, al, ca, tl⟩ (bxN n)) K) :
  zAR P (cfL P) Ys.none 2 (.seq c3q61 cc) T (gB oa oo st ⟨(L ++ [x]), L, L, A, D, (ak + 1), ak, l, z, c, OX, ou, [], .dead, al, ca, tl⟩ (bxN n)) K := by
 have hof := zC5 n
 have hln := zCM n
 have hes : (enG .u64 (oL L)).length ≤ 1000 := by rw [zBn]; omega
 have hE : enG .u64 (oL (L ++ [x])) = enG .u64 (oL L) ++ [(.int .u64 (((ak + 1 : Nat)) : Int), .agg [.int .u16 0, .int .u16 ((rqT n : Nat) : Int), .int .u64 0, .int .u64 ((rqO n : Nat) : Int), .int .u32 ((rqN n : Nat) : Int), .str (rqD n)], ak)] := by rw [oL_snoc, hx, hn]; rfl
 refine zDN (fun K' hK' => w61 _ _ (zBb P) _ _ _ _ _ _ _ _ _ _ _ _ _ _ _ _ _ _ _ _  sa so _ ak i _ ak hes (rqT n) (rqO n) (rqN n) (rqD n) (zBV n) (by omega) (by omega) (ak + 1) (by omega) (zI3 (kd := .u64) (get_oN hck)) T hT K' hK') fun T1 hT1 => ?_
 rw [← hE]
 exact hc T1 hT1
theorem ask62 {ak i : Nat} {tl : List (List Nat)} {g : Gs} {bx : zAe} (hL : g.LO.length ≤ 9) (hak : ak ≤ 99) {more : List (Sl × V)}
  {T : zAa} (hT : zAG T (slW sa so (tV 19 tl) ak i more)) {K : Ex → zAa → Mem → Prop} {cc : zAz}
  (hc : ∀ T', zAG T' (slW sa so (tV 19 tl) (ak + 1) i []) → zAR P (cfL P) Ys.none 2 cc T' (gB oa oo st g bx) K) :
  zAR P (cfL P) Ys.none 2 (.seq c3q62 cc) T (gB oa oo st g bx) K := by
 have hes : (enG .u64 (oL g.LO)).length ≤ 1000 := by rw [zBn]; omega
 exact zDN (fun K' hK' => w62 _ _ (zBb P) _ _ _ _ _ _ _ _ _ _ _ _ _ _ _ _ _ _ _ _ _  sa so _ ak i _ _ hes (by omega) T (zEu hT) K' hK') hc
theorem ask63g {L : List It} {A : Nat → zAe} {D : Nat → List Nat} {l : Nat} {z : Bool} {c : Nat} {OX : List V} {al : EnG} {ca : Nat} {tl : List (List Nat)} {ak i n : Nat} {p : Nat} (hn : Good n) (hz : z = true → L = []) (hk : zDd (l + 1) (fmL L) = none) (h8 : L.length < 8) (hl1 : l ≤ 1000) (hak : ak ≤ 99) (hp8 : ∀ y ∈ (L ++ [⟨ak + 1, l + 1, n, p⟩]), y.p < 8) (hck : ∀ y ∈ (L ++ [⟨ak + 1, l + 1, n, p⟩]), 1 ≤ y.ck) (lowA : ∀ j, Low (A j)) (hOX : pls OX) (hal : PlE al)
  {T : zAa} (hT : zAG T (slW sa so (tV 19 tl) (ak + 1) i [])) {K : Ex → zAa → Mem → Prop} {cc : zAz}
  (hc : ∀ T', zAG T' (slW sa so (tV 19 tl) (ak + 1) i []) → zAR P (cfL P) Ys.none 2 cc T' (gM oa oo st ⟨(L ++ [⟨ak + 1, l + 1, n, p⟩]), (L ++ [⟨ak + 1, l + 1, n, p⟩]), (L ++ [⟨ak + 1, l + 1, n, p⟩]), A, D, (ak + 1), (ak + 1), (l + 1), false, 5, (zGH (l + 1) n), [], [], .dead, al, ca, tl⟩) K) :
  zAR P (cfL P) Ys.none 2 (.seq c3q63 cc) T (gB oa oo st ⟨(L ++ [⟨ak + 1, l + 1, n, p⟩]), L, (L ++ [⟨ak + 1, l + 1, n, p⟩]), A, D, (ak + 1), (ak + 1), l, z, c, OX, (rqB (ak + 1) n), [], .dead, al, ca, tl⟩ (bxN n)) K := by
 have hes : (enG .u64 (oL (L ++ [⟨ak + 1, l + 1, n, p⟩]))).length ≤ 1000 := by rw [zBn, List.length_append]; show L.length + 1 ≤ 1000; omega
 have hsay := say_con k.mix k.O (nm := [97]) (st := st) (ch := st) (sz := 1024) (ou := rqB (ak + 1) n) (q := ak + 1) (rv := .nilslice) (es := enG .u64 (fL (cp 0) (L ++ [⟨ak + 1, l + 1, n, p⟩]))) (R := .dead)
 have hs := cal9_22 (o0 := oa) (o1 := oo) (a0 := A 0) (a1 := A 1) (a2 := A 2) (a3 := A 3) (a4 := A 4) (a5 := A 5) (a6 := A 6) (a7 := A 7) (ox := .cells (xL D (.ptr 13 0) (hvV z L.length 16)) false) (os_ := zA4 st l (ovV z c 15) 14 [] false) (om := .map (enG .i64 (fmL L)) l false) (ob := dO z OX) (oh := dO z (zAo L)) (o17 := .map (enG .u64 (oL (L ++ [⟨ak + 1, l + 1, n, p⟩]))) (ak + 1) false) (o18 := .map (enG .u64 al) ca false) (o19 := tO tl) (o20 := .dead) (o21 := bxN n) (LF := (L ++ [⟨ak + 1, l + 1, n, p⟩])) hp8 hsay
 obtain ⟨NB, hNB, hcon⟩ := hears_good k.mix k.O k.bh (D := D) (st := st) (l := l) (z := z) (c := c) (OX := OX) (L := L) (p := p) hn hz hk h8 hl1 (show ak + 1 ≤ 1000 by omega)
 have hox2 : pls (zGH (l + 1) n) := ⟨fun _ => rfl, fun _ => rfl⟩
 have hh : zAw (LAw P) (fn 8) [.ptr 12 0, .str (rqB (ak + 1) n)] (y22 oa oo (cB st [] (ak + 1) 3 .nilslice) (.map (enG .u64 (fL (fun p => 4 + p) (L ++ [⟨ak + 1, l + 1, n, p⟩]))) (ak + 1) false) (A 0) (A 1) (A 2) (A 3) (A 4) (A 5) (A 6) (A 7) (.cells (xL D (.ptr 13 0) (hvV z L.length 16)) false) (zA4 st l (ovV z c 15) 14 [] false) (.map (enG .i64 (fmL L)) l false) (dO z OX) (dO z (zAo L)) (.map (enG .u64 (oL (L ++ [⟨ak + 1, l + 1, n, p⟩]))) (ak + 1) false) (.map (enG .u64 al) ca false) (tO tl) .dead (bxN n)) (.str []) (y24 oa oo (cB st [] (ak + 1) 3 .nilslice) (.map (enG .u64 (fL (fun p => 4 + p) (L ++ [⟨ak + 1, l + 1, n, p⟩]))) (ak + 1) false) (A 0) (A 1) (A 2) (A 3) (A 4) (A 5) (A 6) (A 7) (.cells (xL D (.ptr 13 0) (.slice 23 0 (L.length + 1) (L.length + 1) 5)) false) (zA4 st (l + 1) (.slice 22 5 0 0 5) 14 [] false) (.map (enG .i64 (fmL (L ++ [⟨ak + 1, l + 1, n, p⟩]))) (l + 1) false) .dead .dead (.map (enG .u64 (oL (L ++ [⟨ak + 1, l + 1, n, p⟩]))) (ak + 1) false) (.map (enG .u64 al) ca false) (tO tl) .dead (bxN n) (.cells (zGH (l + 1) n) false) (.cells (zAo (L ++ [⟨ak + 1, l + 1, n, p⟩])) false)) := by
  rcases hNB with rfl | rfl
  ·cases z with
   | true => exact cal8_g (.inl rfl) hOX hox2 hcon
   | false => exact cal8_g (.inl rfl) hOX hox2 hcon
  ·cases z with
   | true => exact cal8_g (.inr rfl) hOX hox2 hcon
   | false => exact cal8_g (.inr rfl) hOX hox2 hcon
 have hf : zAw (LAw P) (fn 7) [.ptr 2 0, .str []] (y24 oa oo (cB st [] (ak + 1) 3 .nilslice) (.map (enG .u64 (fL (fun p => 4 + p) (L ++ [⟨ak + 1, l + 1, n, p⟩]))) (ak + 1) false) (A 0) (A 1) (A 2) (A 3) (A 4) (A 5) (A 6) (A 7) (.cells (xL D (.ptr 13 0) (.slice 23 0 (L.length + 1) (L.length + 1) 5)) false) (zA4 st (l + 1) (.slice 22 5 0 0 5) 14 [] false) (.map (enG .i64 (fmL (L ++ [⟨ak + 1, l + 1, n, p⟩]))) (l + 1) false) .dead .dead (.map (enG .u64 (oL (L ++ [⟨ak + 1, l + 1, n, p⟩]))) (ak + 1) false) (.map (enG .u64 al) ca false) (tO tl) .dead (bxN n) (.cells (zGH (l + 1) n) false) (.cells (zAo (L ++ [⟨ak + 1, l + 1, n, p⟩])) false)) (.tuple []) (y24 oa oo (cB st [] (ak + 1) 3 .nilslice) (.map (enG .u64 (fL (fun p => 4 + p) (L ++ [⟨ak + 1, l + 1, n, p⟩]))) (ak + 1) false) (A 0) (A 1) (A 2) (A 3) (A 4) (A 5) (A 6) (A 7) (.cells (xL D (.ptr 13 0) (.slice 23 0 (L.length + 1) (L.length + 1) 5)) false) (zA4 st (l + 1) (.slice 22 5 0 0 5) 14 [] false) (.map (enG .i64 (fmL (L ++ [⟨ak + 1, l + 1, n, p⟩]))) (l + 1) false) .dead .dead (.map (enG .u64 (oL (L ++ [⟨ak + 1, l + 1, n, p⟩]))) (ak + 1) false) (.map (enG .u64 al) ca false) (tO tl) .dead (bxN n) (.cells (zGH (l + 1) n) false) (.cells (zAo (L ++ [⟨ak + 1, l + 1, n, p⟩])) false)) := by
  have hg0 : zDd 0 (fL (cp 0) (L ++ [⟨ak + 1, l + 1, n, p⟩])) = none := get_fN fun y hy => by have := hck y hy; omega
  cases st with
  | false => exact cal7_24 (r := []) hp8 (feed0f k.mix k.O k.bc (nm := [97]) (ou := []) (st := false) (sz := 1024) (q := ak + 1) (rv := .nilslice) (A := .dead) (R := .dead) hg0 [] rfl rfl)
  | true => exact cal7_24 (r := []) hp8 (feed0t k.mix k.O k.bc (nm := [97]) (ou := []) (st := true) (sz := 1024) (q := ak + 1) (rv := .nilslice) (A := .dead) (R := .dead) [] rfl)
 have hlow : LowG oa oo ⟨(L ++ [⟨ak + 1, l + 1, n, p⟩]), (L ++ [⟨ak + 1, l + 1, n, p⟩]), (L ++ [⟨ak + 1, l + 1, n, p⟩]), A, D, (ak + 1), (ak + 1), (l + 1), false, 5, (zGH (l + 1) n), [], [], .dead, al, ca, tl⟩ := ⟨h0, h1, lowA, hox2, hal, Low.dead, hp8⟩
 have hlen : (L ++ [(⟨ak + 1, l + 1, n, p⟩ : It)]).length = L.length + 1 := by simp
 have hfit : Fits oa oo st ⟨(L ++ [⟨ak + 1, l + 1, n, p⟩]), (L ++ [⟨ak + 1, l + 1, n, p⟩]), (L ++ [⟨ak + 1, l + 1, n, p⟩]), A, D, (ak + 1), (ak + 1), (l + 1), false, 5, (zGH (l + 1) n), [], [], .dead, al, ca, tl⟩ (y24 oa oo (cB st [] (ak + 1) 3 .nilslice) (.map (enG .u64 (fL (fun p => 4 + p) (L ++ [⟨ak + 1, l + 1, n, p⟩]))) (ak + 1) false) (A 0) (A 1) (A 2) (A 3) (A 4) (A 5) (A 6) (A 7) (.cells (xL D (.ptr 13 0) (.slice 23 0 (L.length + 1) (L.length + 1) 5)) false) (zA4 st (l + 1) (.slice 22 5 0 0 5) 14 [] false) (.map (enG .i64 (fmL (L ++ [⟨ak + 1, l + 1, n, p⟩]))) (l + 1) false) .dead .dead (.map (enG .u64 (oL (L ++ [⟨ak + 1, l + 1, n, p⟩]))) (ak + 1) false) (.map (enG .u64 al) ca false) (tO tl) .dead (bxN n) (.cells (zGH (l + 1) n) false) (.cells (zAo (L ++ [⟨ak + 1, l + 1, n, p⟩])) false)) (zAJ [0, 1, 2, 3, 4, 5, 6, 7, 8, 9, 10, 11, 12, 13, 14, 22, 23, 17, 18, 19, 20]) := ⟨by kernel_rfl, by kernel_rfl, by kernel_rfl, fit3 ⟨rfl, rfl, rfl, rfl, rfl, rfl, rfl, rfl⟩ hp8 (by kernel_rfl), fun j hj => by rcases k8 hj with rfl | rfl | rfl | rfl | rfl | rfl | rfl | rfl <;> exact .inl (by kernel_rfl), by rw [show (⟨(L ++ [⟨ak + 1, l + 1, n, p⟩]), (L ++ [⟨ak + 1, l + 1, n, p⟩]), (L ++ [⟨ak + 1, l + 1, n, p⟩]), A, D, (ak + 1), (ak + 1), (l + 1), false, 5, (zGH (l + 1) n), [], [], .dead, al, ca, tl⟩ : Gs).LS.length = L.length + 1 from hlen]; kernel_rfl, by kernel_rfl, by kernel_rfl, by kernel_rfl, by kernel_rfl, by kernel_rfl, by kernel_rfl, by kernel_rfl, .inl (by kernel_rfl)⟩
 refine zDN (fun K' hK' => w63g _ _ (zBb P) _ _ _ _ _ _ _ _ _ _ _ _ _ _ _ _ _ _ _ _ _ _ _ _ _ _ _ _ _ _ _ _ _ _ _ _ _ _ _  sa so _ (ak + 1) i _ _ hes _ _ hs hh hf T hT K' hK') fun T1 hT1 => ?_
 refine renN (zIV rfl rfl hlow hfit) hT1 fun T2 hT2 => hc T2 ?_
 rw [zDh va vo rfl rfl rfl rfl rfl (zEf fun _ _ _ _ => rfl) rfl] at hT2
 exact hT2
theorem ask63b {L : List It} {A : Nat → zAe} {D : Nat → List Nat} {l : Nat} {z : Bool} {c : Nat} {OX : List V} {al : EnG} {ca : Nat} {tl : List (List Nat)} {ak i n : Nat} {x : It} (hx : x.ck = ak + 1) (hxn : x.n = n) (hA : A x.p = flI x) (hn : ¬ Good n) (h8 : L.length < 8) (hl1 : l ≤ 1000) (hak : ak ≤ 99) (hp8 : ∀ y ∈ (L ++ [x]), y.p < 8) (hck : ∀ y ∈ L, 1 ≤ y.ck ∧ y.ck ≠ ak + 1) (lowA : ∀ j, Low (A j)) (hOX : pls OX) (hal : PlE al) (hnd : NdC (L ++ [x]))
  {T : zAa} (hT : zAG T (slW sa so (tV 19 tl) (ak + 1) i [])) {K : Ex → zAa → Mem → Prop} {cc : zAz}
  (hc : ∀ A2, Low A2 → ∀ T', zAG T' (slW sa so (tV 19 tl) (ak + 1) i []) → zAR P (cfL P) Ys.none 2 cc T' (gM oa oo st ⟨L, L, (L ++ [x]), (zA5 A x.p A2), D, (ak + 1), (ak + 1), l, z, c, OX, [], [(22, ak + 1, [])], (rO [(22, ak + 1, [])]), al, ca, tl⟩) K) :
  zAR P (cfL P) Ys.none 2 (.seq c3q63 cc) T (gB oa oo st ⟨(L ++ [x]), L, (L ++ [x]), A, D, (ak + 1), (ak + 1), l, z, c, OX, (rqB (ak + 1) n), [], .dead, al, ca, tl⟩ (bxN n)) K := by
 have hp8L : ∀ y ∈ L, y.p < 8 := fun y hy => hp8 y (List.mem_append_left _ hy)
 have hpx : x.p < 8 := hp8 x (by simp)
 have hof := zC5 n
 have hln := zCM n
 have hes : (enG .u64 (oL (L ++ [x]))).length ≤ 1000 := by rw [zBn, List.length_append]; show L.length + 1 ≤ 1000; omega
 have hsay := say_con k.mix k.O (nm := [97]) (st := st) (ch := st) (sz := 1024) (ou := rqB (ak + 1) n) (q := ak + 1) (rv := .nilslice) (es := enG .u64 (fL (cp 0) (L ++ [x]))) (R := .dead)
 have hs := cal9_22 (o0 := oa) (o1 := oo) (a0 := A 0) (a1 := A 1) (a2 := A 2) (a3 := A 3) (a4 := A 4) (a5 := A 5) (a6 := A 6) (a7 := A 7) (ox := .cells (xL D (.ptr 13 0) (hvV z L.length 16)) false) (os_ := zA4 st l (ovV z c 15) 14 [] false) (om := .map (enG .i64 (fmL L)) l false) (ob := dO z OX) (oh := dO z (zAo L)) (o17 := .map (enG .u64 (oL (L ++ [x]))) (ak + 1) false) (o18 := .map (enG .u64 al) ca false) (o19 := tO tl) (o20 := .dead) (o21 := bxN n) (LF := (L ++ [x])) hp8 hsay
 obtain ⟨w, hmsg, hcon⟩ := hears_bad k.mix k.O k.bh (D := D) (st := st) (l := l) (z := z) (c := c) (OX := OX) (L := L) hn h8 hl1 (show ak + 1 ≤ 1000 by omega)
 have hh : zAw (LAw P) (fn 8) [.ptr 12 0, .str (rqB (ak + 1) n)] (y22 oa oo (cB st [] (ak + 1) 3 .nilslice) (.map (enG .u64 (fL (fun p => 4 + p) (L ++ [x]))) (ak + 1) false) (A 0) (A 1) (A 2) (A 3) (A 4) (A 5) (A 6) (A 7) (.cells (xL D (.ptr 13 0) (hvV z L.length 16)) false) (zA4 st l (ovV z c 15) 14 [] false) (.map (enG .i64 (fmL L)) l false) (dO z OX) (dO z (zAo L)) (.map (enG .u64 (oL (L ++ [x]))) (ak + 1) false) (.map (enG .u64 al) ca false) (tO tl) .dead (bxN n)) (.str w) (y22 oa oo (cB st [] (ak + 1) 3 .nilslice) (.map (enG .u64 (fL (fun p => 4 + p) (L ++ [x]))) (ak + 1) false) (A 0) (A 1) (A 2) (A 3) (A 4) (A 5) (A 6) (A 7) (.cells (xL D (.ptr 13 0) (hvV z L.length 16)) false) (zA4 st l (ovV z c 15) 14 [] false) (.map (enG .i64 (fmL L)) l false) (dO z OX) (dO z (zAo L)) (.map (enG .u64 (oL (L ++ [x]))) (ak + 1) false) (.map (enG .u64 al) ca false) (tO tl) .dead (bxN n)) := by
  cases z with
  | true => exact cal8_b hOX hcon
  | false => exact cal8_b hOX hcon
 have hcf : cp x.p x.p = 2 := cp_self _
 have hrm : rmI (ak + 1) (L ++ [x]) = L := by rw [← hx]; exact rmI_snoc fun y hy => by rw [hx]; exact (hck y hy).2
 have hg1 : zDd (ak + 1) (fL (cp x.p) (L ++ [x])) = some (.ptr 2 0) := by
  have := get_f (f := cp x.p) hnd (x := x) (by simp)
  rw [hx, hcf] at this; exact this
 have hd1 : delG (ak + 1) (fL (cp x.p) (L ++ [x])) = fL (cp x.p) L := by rw [del_f, hrm]
 obtain ⟨A2, hA2, hfd⟩ := feed_con k.mix k.O k.bc (nm := [97]) (ou := []) (st := st) (ch := st) (sz := 1024) (q := ak + 1) (ck := ak + 1) (ad := rqD n) (zBV n) (by omega) (by omega) (by omega) hg1 (by rw [hd1]; exact get_fN fun y hy => by have := (hck y hy).1; omega) (r := []) (by decide) hmsg
 rw [hd1] at hfd
 have hlA := low_bel hA2
 have hrl : pls (repL ([] ++ [(22, ak + 1, ([] : List Nat))])) := zHi _
 have hlow : LowG oa oo ⟨L, L, (L ++ [x]), (zA5 A x.p A2), D, (ak + 1), (ak + 1), l, z, c, OX, [], [(22, ak + 1, [])], (rO [(22, ak + 1, [])]), al, ca, tl⟩ := ⟨h0, h1, fun j => by show Low (zA5 A x.p A2 j); unfold zA5; split; exact hlA; exact lowA j, hOX, hal, show Low (rO [(22, ak + 1, ([] : List Nat))]) from low_rO _, hp8L⟩
 have hfx : flI x = flO (rqT n) (ak + 1) (rqO n) (rqN n) (rqD n) := by rw [← hxn, ← hx]
 have hf : zAw (LAw P) (fn 7) [.ptr 2 0, .str w] (y22 oa oo (cB st [] (ak + 1) 3 .nilslice) (.map (enG .u64 (fL (fun p => 4 + p) (L ++ [x]))) (ak + 1) false) (A 0) (A 1) (A 2) (A 3) (A 4) (A 5) (A 6) (A 7) (.cells (xL D (.ptr 13 0) (hvV z L.length 16)) false) (zA4 st l (ovV z c 15) 14 [] false) (.map (enG .i64 (fmL L)) l false) (dO z OX) (dO z (zAo L)) (.map (enG .u64 (oL (L ++ [x]))) (ak + 1) false) (.map (enG .u64 al) ca false) (tO tl) .dead (bxN n)) (.tuple []) (y23 oa oo (cB st [] (ak + 1) 3 (.slice 22 0 (([] : List zEq).length + 1) (([] : List zEq).length + 1) 3)) (.map (enG .u64 (fL (fun p => 4 + p) L)) (ak + 1) false) (zA5 A x.p A2 0) (zA5 A x.p A2 1) (zA5 A x.p A2 2) (zA5 A x.p A2 3) (zA5 A x.p A2 4) (zA5 A x.p A2 5) (zA5 A x.p A2 6) (zA5 A x.p A2 7) (.cells (xL D (.ptr 13 0) (hvV z L.length 16)) false) (zA4 st l (ovV z c 15) 14 [] false) (.map (enG .i64 (fmL L)) l false) (dO z OX) (dO z (zAo L)) (.map (enG .u64 (oL (L ++ [x]))) (ak + 1) false) (.map (enG .u64 al) ca false) (tO tl) .dead (bxN n) (.cells (repL ([] ++ [(22, ak + 1, [])])) false)) := by
  rw [hfx] at hA
  obtain ⟨ck, tg, n', p⟩ := x
  have hpx : p < 8 := hpx
  have hA : A p = flO (rqT n) (ak + 1) (rqO n) (rqN n) (rqD n) := hA
  exact cal7r_n (r := []) hpx hA hp8 hp8L hA2 hrl hfd
 have hfit : Fits oa oo st ⟨L, L, (L ++ [x]), (zA5 A x.p A2), D, (ak + 1), (ak + 1), l, z, c, OX, [], [(22, ak + 1, [])], (rO [(22, ak + 1, [])]), al, ca, tl⟩ (y23 oa oo (cB st [] (ak + 1) 3 (.slice 22 0 (([] : List zEq).length + 1) (([] : List zEq).length + 1) 3)) (.map (enG .u64 (fL (fun p => 4 + p) L)) (ak + 1) false) (zA5 A x.p A2 0) (zA5 A x.p A2 1) (zA5 A x.p A2 2) (zA5 A x.p A2 3) (zA5 A x.p A2 4) (zA5 A x.p A2 5) (zA5 A x.p A2 6) (zA5 A x.p A2 7) (.cells (xL D (.ptr 13 0) (hvV z L.length 16)) false) (zA4 st l (ovV z c 15) 14 [] false) (.map (enG .i64 (fmL L)) l false) (dO z OX) (dO z (zAo L)) (.map (enG .u64 (oL (L ++ [x]))) (ak + 1) false) (.map (enG .u64 al) ca false) (tO tl) .dead (bxN n) (.cells (repL ([] ++ [(22, ak + 1, [])])) false)) (zAJ [0, 1, 2, 3, 4, 5, 6, 7, 8, 9, 10, 11, 12, 13, 14, 15, 16, 17, 18, 19, 22]) := by
  have hp8 := hp8L
  exact ⟨by kernel_rfl, by kernel_rfl, by kernel_rfl, fit3 ⟨rfl, rfl, rfl, rfl, rfl, rfl, rfl, rfl⟩ hp8 (by kernel_rfl), fun j hj => by rcases k8 hj with rfl | rfl | rfl | rfl | rfl | rfl | rfl | rfl <;> exact .inl (by kernel_rfl), by kernel_rfl, by kernel_rfl, by kernel_rfl, by kernel_rfl, by kernel_rfl, by kernel_rfl, by kernel_rfl, by kernel_rfl, .inl (by kernel_rfl)⟩
 refine zDN (fun K' hK' => w63b _ _ (zBb P) _ _ _ _ _ _ _ _ _ _ _ _ _ _ _ _ _ _ _ _ _ _ _ _ _ _ _ _ _ _ _ _ _  sa so _ (ak + 1) i _ _ hes _ _ hs hh hf T hT K' hK') fun T1 hT1 => ?_
 refine renN (zIV rfl rfl hlow hfit) hT1 fun T2 hT2 => hc A2 hlA T2 ?_
 rw [zDh va vo rfl rfl rfl rfl rfl (zEf fun _ _ _ _ => rfl) rfl] at hT2
 exact hT2
theorem ask64 {g : Gs} {ak i : Nat} (hL : g.LO.length ≤ 9) (hlow : LowG oa oo g)
  {T : zAa} (hT : zAG T (slW sa so (tV 19 g.tl) ak i [])) {K : Ex → zAa → Mem → Prop}
  (hc : ∀ al' ca', (al' = [] ∨ al' = g.al ∧ g.LO.length ≤ 1) → ∀ T' m', Near oa oo st ⟨g.LF, g.LS, g.LO, g.A, g.D, g.q, g.qo, g.l, g.z, g.c, g.OX, g.ou, g.rp, g.R, al', ca', g.tl⟩ (slW sa so (tV 19 g.tl) ak i []) T' m' → K .normal T' m') :
  zAR P (cfL P) Ys.none 2 c3q64 T (gM oa oo st g) K := by
 have hes : (enG .u64 (oL g.LO)).length ≤ 1000 := by rw [zBn]; omega
 by_cases h2 : g.LO.length ≤ 1
 ·exact zGn (w64n _ _ (zBb P) _ _ _ _ _ _ _ _ _ _ _ _ _ _ _ _ _ _ _ _  sa so _ ak i _ _ hes (by rw [zBn]; exact h2) T hT K fun T1 hT1 => hc g.al g.ca (.inr ⟨rfl, h2⟩) T1 _ (.inl ⟨hT1, rfl⟩))
 ·obtain ⟨LF, LS, LO, A, D, q, qo, l, z, c', OX, ou, rp, R, al, ca, tl⟩ := g
  have hp8 := hlow.F
  have hlow2 : LowG oa oo ⟨LF, LS, LO, A, D, q, qo, l, z, c', OX, ou, rp, R, [], 0, tl⟩ := ⟨h0, h1, hlow.A, hlow.OX, (fun e he => by cases he), hlow.R, hp8⟩
  refine zGn (w64y _ _ (zBb P) _ _ _ _ _ _ _ _ _ _ _ _ _ _ _ _ _ _ _ _  sa so _ ak i _ _ hes (by rw [zBn]; omega) T hT K fun T1 hT1 => ?_)
  have hfit : Fits oa oo st ⟨LF, LS, LO, A, D, q, qo, l, z, c', OX, ou, rp, R, [], 0, tl⟩ (y22 oa oo (cB st ou q 3 (rvO 20 rp)) (.map (enG .u64 (fL (fun p => 4 + p) LF)) q false) (A 0) (A 1) (A 2) (A 3) (A 4) (A 5) (A 6) (A 7) (.cells (xL D (.ptr 13 0) (hvV z LS.length 16)) false) (zA4 st l (ovV z c' 15) 14 [] false) (.map (enG .i64 (fmL LS)) l false) (dO z OX) (dO z (zAo LS)) (.map (enG .u64 (oL LO)) qo false) (.map (enG .u64 al) ca false) (tO tl) R (.map [] 0 false)) (zAJ [0, 1, 2, 3, 4, 5, 6, 7, 8, 9, 10, 11, 12, 13, 14, 15, 16, 17, 21, 19, 20]) := ⟨by kernel_rfl, by kernel_rfl, by kernel_rfl, fit3 ⟨rfl, rfl, rfl, rfl, rfl, rfl, rfl, rfl⟩ hp8 (by kernel_rfl), fun j hj => by rcases k8 hj with rfl | rfl | rfl | rfl | rfl | rfl | rfl | rfl <;> exact .inl (by kernel_rfl), by kernel_rfl, by kernel_rfl, by kernel_rfl, by kernel_rfl, by kernel_rfl, by kernel_rfl, by kernel_rfl, by kernel_rfl, .inl (by kernel_rfl)⟩
  exact hc [] 0 (.inl rfl) T1 _ (.inr ⟨_, _, zIV rfl rfl hlow2 hfit, hT1, zDh (m11 := 21) va vo rfl rfl rfl rfl rfl (zEf fun _ _ _ _ => rfl) rfl⟩)
end
end Go.Proofs.YtjekgdkaejgpdaaGreat
