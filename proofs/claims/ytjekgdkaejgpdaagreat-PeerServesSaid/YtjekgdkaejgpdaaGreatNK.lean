/- The law's acts, and rounds. No condition. -/
import Derived.Test.YtjekgdkaejgpdaaGreatNJ
namespace Go.Proofs.YtjekgdkaejgpdaaGreat
open Go Go.AM
set_option maxRecDepth 100000
set_option maxHeartbeats 4000000
set_option linter.unusedVariables false
set_option linter.unusedSectionVars false
theorem zIP {sa so tv v : V} {s : Sl} {ak i : Nat} {more : List (Sl × V)} {T : zAa} (h : zAG T (slW sa so tv ak i ((s, v) :: more))) : T.get s = v := h.2.2.2.2.2.2.2.2.2.1
theorem slW_at10 {sa so tv v v' : V} {s s' : Sl} {ak i : Nat} {more : List (Sl × V)} {T : zAa} (h : zAG T (slW sa so tv ak i ((s', v') :: (s, v) :: more))) : T.get s = v := h.2.2.2.2.2.2.2.2.2.2.1
theorem slW_one {sa so tv v : V} {s : Sl} {ak i : Nat} {more : List (Sl × V)} {T : zAa} (h : zAG T (slW sa so tv ak i ((s, v) :: more))) : zAG T (slW sa so tv ak i [(s, v)]) := ⟨h.1, h.2.1, h.2.2.1, h.2.2.2.1, h.2.2.2.2.1, h.2.2.2.2.2.1, h.2.2.2.2.2.2.1, h.2.2.2.2.2.2.2.1, h.2.2.2.2.2.2.2.2.1, h.2.2.2.2.2.2.2.2.2.1, trivial⟩
structure Par (acs os : List Nat) (sa so : V) (oa oo : zAe) : Prop where
 a : ParU .u16 0 acs sa oa
 o : ParU .u8 1 os so oo
 al : ∀ b ∈ acs, b < 65536
 ol : ∀ b ∈ os, b < 256
 an : acs.length ≤ 100
 on : os.length ≤ 100
abbrev meas (n ak : Nat) (L : List It) : Nat := 2 * (n - ak) + L.length
abbrev brk2 : zAz := .seq c3q6 (.seq c3q61 (.seq c3q62 (.seq c3q63 c3q64)))
abbrev brk1 : zAz := .seq c3q2 (.seq c3q3 (.seq c3q4 (.seq c3q5 (.cond (.t s118) brk2 .skip))))
abbrev askC : zAz := .seq c3q1 (.cond (.t s99) brk1 .skip)
theorem getA {P : Program} {k : zGN P} {acs os : List Nat} {sa so : V} {oa oo : zAe} (par : Par acs os sa so oa oo) {i : Nat} (hi : i < acs.length) : (sa = .slice 0 0 acs.length acs.length 1 ∧ oa = .cells (vU .u16 acs) true) ∧ True := ⟨par.a.get hi, trivial⟩
section
variable {P : Program} (k : zGN P) {acs os : List Nat} {sa so : V} {oa oo : zAe} {st : Bool} (par : Par acs os sa so oa oo)
include k par
theorem ask_go {L : List It} {A : Nat → zAe} {D : Nat → List Nat} {l : Nat} {z : Bool} {c : Nat} {OX : List V} {al : EnG} {ca : Nat} {tl : List (List Nat)} {ak i : Nat} (hM : Mid ⟨L, L, L, A, D, ak, ak, l, z, c, OX, [], [], .dead, al, ca, tl⟩ [] ak) (h8 : L.length < 8) (hi : i < 500) (hakn : ak < acs.length)
  {T : zAa} (hT : zAG T (slW sa so (tV 19 tl) ak i [])) {K : Ex → zAa → Mem → Prop}
  (hK : ∀ g' pn T' m', Mid g' pn (ak + 1) → pn.length ≤ 1 → g'.LF.length ≤ L.length + 1 → Near oa oo st g' (slW sa so (tV 19 g'.tl) (ak + 1) i []) T' m' → K .normal T' m') :
  zAR P (cfL P) Ys.none 2 brk1 T (gM oa oo st ⟨L, L, L, A, D, ak, ak, l, z, c, OX, [], [], .dead, al, ca, tl⟩) K := by
 obtain ⟨ea, eo⟩ := (getA (k := k) par hakn).1
 have va := par.a.lowV (.inl rfl)
 have vo := par.o.lowV (.inr rfl)
 have h0 := par.a.low
 have h1 := par.o.low
 have han := par.an
 have hak : ak ≤ 99 := by omega
 obtain ⟨n, hn⟩ : ∃ n, acs[ak] = n := ⟨_, rfl⟩
 have hn16 : n < 65536 := by rw [← hn]; exact par.al _ (List.getElem_mem _)
 have hof := zC5 n
 have hln := zCM n
 have hes : (enG .u64 (oL L)).length ≤ 1000 := by rw [zBn]; omega
 have hck : ∀ y ∈ L, y.ck ≠ ak + 1 := fun y hy => by have h3 : y.ck ≤ ak := (hM.ck y hy).2; omega
 have hck1 : ∀ y ∈ L, 1 ≤ y.ck := fun y hy => (hM.ck y hy).1
 obtain ⟨p, hp, hfree⟩ := free_p h8
 have mz : z = true → L = [] := hM.z
 have mD : DkOk D := hM.D
 have mlen : L.length ≤ 8 := hM.len
 have mp8 : ∀ y ∈ L, y.p < 8 := hM.p8
 have mlA : ∀ j, Low (A j) := hM.lowA
 have mOX : pls OX := hM.OX
 have mal : PlE al := hM.plal
 have mtl : tl.length ≤ ak := hM.tl
 have mka : ∀ e ∈ al, e.1 ≠ ak + 1 := fun e he => by have h3 : e.1 ≤ ak := (hM.kal e he).2; omega
 have mnd : NdC L := hM.ndC
 have mtg : zDd (l + 1) (fmL L) = none := get_mN fun y hy => by have h3 : y.tg ≤ l := (hM.tg y hy).2; omega
 have ml : l ≤ ak := hM.l
 have hcal : zAw (LAw P) (fn 12) [.int .u16 ((n : Nat) : Int)] (gM oa oo st ⟨L, L, L, A, D, ak, ak, l, z, c, OX, [], [], .dead, al, ca, tl⟩) (rqV n) (gM oa oo st ⟨L, L, L, A, D, ak, ak, l, z, c, OX, [], [], .dead, al, ca, tl⟩) := up12 (cal_Fn (rqS_y hn16))
 have two : ∀ x : It, x.ck = ak + 1 → x.n = n → x.p = p → ∀ T1, zAG T1 (slW sa so (tV 19 tl) ak i [(s15, .ptr 21 0)]) → ∀ cc K2, (∀ al' ca' tl', TRel D L ak n al ca tl al' ca' tl' → ∀ T', zAG T' (slW sa so (tV 19 tl') (ak + 1) i []) → zAR P (cfL P) Ys.none 2 cc T' (gB oa oo st ⟨L ++ [x], L, L ++ [x], zA5 A x.p (flI x), D, ak + 1, ak + 1, l, z, c, OX, rqB (ak + 1) n, [], .dead, al', ca', tl'⟩ (bxN n)) K2) →
   zAR P (cfL P) Ys.none 2 (.seq c3q3 (.seq c3q4 (.seq c3q5 (.cond (.t s118) (.seq c3q6 (.seq c3q61 (.seq c3q62 cc))) .skip)))) T1 (gB oa oo st ⟨L, L, L, A, D, ak, ak, l, z, c, OX, [], [], .dead, al, ca, tl⟩ (bxN n)) K2 := by
  intro x hx hxn hxp T1 hT1 cc K2 hK2
  have hlow1 : ∀ j, Low (zA5 A x.p (flI x) j) := fun j => by
   unfold zA5; split
   ·exact zB2 ⟨fun _ => rfl, fun _ => rfl⟩
   ·exact hM.lowA j
  have hp8 : ∀ y ∈ L ++ [x], y.p < 8 := fun y hy => by
   rcases zBI hy with hy | rfl
   ·exact hM.p8 y hy
   ·rw [hxp]; exact hp
  refine ask3 k va vo h0 h1 hx hxn (by rw [hxp]; exact hp) (by rw [hxp]; exact hfree) h8 hak mp8 hck mlA mOX mal hT1 fun T2 hT2 => ?_
  refine zDN (fun K' hK' => w4o _ _ (zBb P) _ _ _ _ _ _ _ _ _ _ _ _ _ _ _ _ _ _ _ _ _  sa so _ ak i _ ak hes (ak + 1) (by rw [zBn]; exact h8) T2 hT2 K' hK') fun T3 hT3 => ?_
  refine zDN (fun K' hK' => w5o _ _ (zBb P) _ _ _ _ _ _ _ _ _ _ _ _ _ _ _ _ _ _ _ _ _  sa so _ ak i _ ak hes (ak + 1) T3 hT3 K' hK') fun T4 hT4 => ?_
  refine .condT (show T4.get s118 = .bool true from hT4.2.2.2.2.2.2.2.2.2.2.2.2.1) ?_
  have hT5 : zAG T4 (slW sa so (tV 19 tl) ak i [(s15, .ptr 21 0), (s16, .int .u64 (((ak + 1 : Nat)) : Int)), (s17, .int .i64 0)]) := ⟨hT4.1, hT4.2.1, hT4.2.2.1, hT4.2.2.2.1, hT4.2.2.2.2.1, hT4.2.2.2.2.2.1, hT4.2.2.2.2.2.2.1, hT4.2.2.2.2.2.2.2.1, hT4.2.2.2.2.2.2.2.2.1, hT4.2.2.2.2.2.2.2.2.2.1, hT4.2.2.2.2.2.2.2.2.2.2.1, hT4.2.2.2.2.2.2.2.2.2.2.2.1, trivial⟩
  refine ask6 k va vo h0 h1 hx mz mD mlen hak hp8 hlow1 mOX mal mka mtl hT5 fun al' ca' tl' htr T6 hT6 => ?_
  refine ask61 k va vo h0 h1 hx hxn mlen hak hck hT6 fun T7 hT7 => ?_
  refine ask62 k va vo h0 h1 (by show (L ++ [x]).length ≤ 9; rw [List.length_append]; show L.length + 1 ≤ 9; omega) hak hT7 fun T8 hT8 => ?_
  exact hK2 al' ca' tl' htr T8 hT8
 have hw2 : ∀ K' : Ex → zAa → Mem → Prop, (∀ T', zAG T' (slW sa so (tV 19 tl) ak i [(s15, .ptr 21 0)]) → K' .normal T' (gB oa oo st ⟨L, L, L, A, D, ak, ak, l, z, c, OX, [], [], .dead, al, ca, tl⟩ (bxN n))) → code pA (cfL P) Ys.none c3q2 T (gM oa oo st ⟨L, L, L, A, D, ak, ak, l, z, c, OX, [], [], .dead, al, ca, tl⟩) K' := by
  clear two
  intro K' hK'
  have hnn : nth (vU .u16 acs) ak = some (.int .u16 ((n : Nat) : Int)) := by rw [nth_vU hakn, hn]
  clear hK par va vo h0 h1
  subst ea; subst eo
  exact w2 _ _ (zBb P) _ _ _ _ _ _ _ _ _ _ _ _ _ _ _ _ _ _ _  so _ ak i _ ak hes (rqT n) (rqO n) (rqN n) (rqD n) (zBV n) (by omega) (by omega) hi (by omega) acs.length acs.length n han (vU .u16 acs) hakn hn16 hnn hcal T hT K' hK'
 refine zDN hw2 fun T1 hT1 => ?_
 by_cases hg : Good n
 ·refine two ⟨ak + 1, l + 1, n, p⟩ rfl rfl rfl T1 hT1 (.seq c3q63 c3q64) K fun al' ca' tl' htr T8 hT8 => ?_
  have hp8 : ∀ y ∈ L ++ [(⟨ak + 1, l + 1, n, p⟩ : It)], y.p < 8 := fun y hy => by
   rcases zBI hy with hy | rfl
   ·exact hM.p8 y hy
   ·exact hp
  have hck2 : ∀ y ∈ L ++ [(⟨ak + 1, l + 1, n, p⟩ : It)], 1 ≤ y.ck := fun y hy => by
   rcases zBI hy with hy | rfl
   ·exact hck1 y hy
   ·show 1 ≤ ak + 1; omega
  have hpl : PlE al' := by
   rcases htr with ⟨rfl, _⟩ | ⟨_, _, _, rfl, _⟩
   ·exact hM.plal
   ·intro e he
    rcases List.mem_append.1 he with he | he
    ·exact hM.plal e he
    ·simp at he; subst he; exact ⟨fun _ => rfl, fun _ => rfl⟩
  have hlow1 : ∀ j, Low (zA5 A p (flI ⟨ak + 1, l + 1, n, p⟩) j) := fun j => by
   unfold zA5; split
   ·exact zB2 ⟨fun _ => rfl, fun _ => rfl⟩
   ·exact hM.lowA j
  refine ask63g k va vo h0 h1 (L := L) (A := zA5 A p (flI ⟨ak + 1, l + 1, n, p⟩)) (D := D) (l := l) (z := z) (c := c) (OX := OX) (al := al') (ca := ca') (tl := tl') (ak := ak) (i := i) (n := n) (p := p) hg mz mtg h8 (by omega) hak hp8 hck2 hlow1 mOX hpl hT8 fun T9 hT9 => ?_
  obtain ⟨gg, hgg⟩ : ∃ gg : Gs, gg = ⟨L ++ [⟨ak + 1, l + 1, n, p⟩], L ++ [⟨ak + 1, l + 1, n, p⟩], L ++ [⟨ak + 1, l + 1, n, p⟩], zA5 A p (flI ⟨ak + 1, l + 1, n, p⟩), D, ak + 1, ak + 1, l + 1, false, 5, zGH (l + 1) n, [], [], .dead, al', ca', tl'⟩ := ⟨_, rfl⟩
  have hLO : gg.LO.length ≤ 9 := by rw [hgg]; show (L ++ [_]).length ≤ 9; rw [List.length_append]; show L.length + 1 ≤ 9; omega
  have hLG : LowG oa oo gg := by rw [hgg]; exact ⟨h0, h1, hlow1, ⟨fun _ => rfl, fun _ => rfl⟩, hpl, Low.dead, hp8⟩
  rw [← hgg]
  have hT9' : zAG T9 (slW sa so (tV 19 gg.tl) (ak + 1) i []) := by rw [hgg]; exact hT9
  refine ask64 k va vo h0 h1 (g := gg) hLO hLG hT9' fun al2 ca2 h2 T' m' hN => ?_
  subst hgg
  exact hK _ [] T' m' (mid_good hM hg h8 hak hp hfree htr h2) (Nat.zero_le _) (by show (L ++ [_]).length ≤ _; rw [List.length_append]; exact Nat.le_refl _) hN
 ·refine two ⟨ak + 1, 0, n, p⟩ rfl rfl rfl T1 hT1 (.seq c3q63 c3q64) K fun al' ca' tl' htr T8 hT8 => ?_
  have hp8 : ∀ y ∈ L ++ [(⟨ak + 1, 0, n, p⟩ : It)], y.p < 8 := fun y hy => by
   rcases zBI hy with hy | rfl
   ·exact hM.p8 y hy
   ·exact hp
  have hpl : PlE al' := by
   rcases htr with ⟨rfl, _⟩ | ⟨_, _, _, rfl, _⟩
   ·exact hM.plal
   ·intro e he
    rcases List.mem_append.1 he with he | he
    ·exact hM.plal e he
    ·simp at he; subst he; exact ⟨fun _ => rfl, fun _ => rfl⟩
  have hlow1 : ∀ j, Low (zA5 A p (flI ⟨ak + 1, 0, n, p⟩) j) := fun j => by
   unfold zA5; split
   ·exact zB2 ⟨fun _ => rfl, fun _ => rfl⟩
   ·exact hM.lowA j
  refine ask63b k va vo h0 h1 (L := L) (A := zA5 A p (flI ⟨ak + 1, 0, n, p⟩)) (D := D) (l := l) (z := z) (c := c) (OX := OX) (al := al') (ca := ca') (tl := tl') (ak := ak) (i := i) (n := n) (x := ⟨ak + 1, 0, n, p⟩) rfl rfl (zFs _ _ _) hg h8 (by omega) hak hp8 (fun y hy => ⟨hck1 y hy, hck y hy⟩) hlow1 mOX hpl (zI0 mnd hck) hT8 fun A2 hA2 T9 hT9 => ?_
  obtain ⟨gg, hgg⟩ : ∃ gg : Gs, gg = ⟨L, L, L ++ [⟨ak + 1, 0, n, p⟩], zA5 (zA5 A p (flI ⟨ak + 1, 0, n, p⟩)) p A2, D, ak + 1, ak + 1, l, z, c, OX, [], [(22, ak + 1, [])], rO [(22, ak + 1, [])], al', ca', tl'⟩ := ⟨_, rfl⟩
  have hLO : gg.LO.length ≤ 9 := by rw [hgg]; show (L ++ [_]).length ≤ 9; rw [List.length_append]; show L.length + 1 ≤ 9; omega
  have hLG : LowG oa oo gg := by rw [hgg]; exact ⟨h0, h1, fun j => by show Low (zA5 _ p A2 j); by_cases e : j = p; (subst e; rw [zFs]; exact hA2); (rw [zFa _ _ e]; exact hlow1 j), mOX, hpl, show Low (rO [(22, ak + 1, ([] : List Nat))]) from low_rO _, mp8⟩
  rw [← hgg]
  have hT9' : zAG T9 (slW sa so (tV 19 gg.tl) (ak + 1) i []) := by rw [hgg]; exact hT9
  refine ask64 k va vo h0 h1 (g := gg) hLO hLG hT9' fun al2 ca2 h2 T' m' hN => ?_
  subst hgg
  exact hK _ [(⟨ak + 1, 0, n, p⟩, 22, [])] T' m' (mid_bad hM rfl rfl hg h8 hak hfree hA2 htr h2) (Nat.le_refl _) (by show L.length ≤ _; omega) hN
end
theorem zGe {oa oo : zAe} {st : Bool} {g : Gs} {L : List (Sl × V)} {T : zAa} (h : zAG T L) : Near oa oo st g L T (gM oa oo st g) := .inl ⟨h, rfl⟩
theorem skipN {P : Program} {cf : Ys Prop → CF Prop} {Y : Ys Prop} {T : zAa} {m : Mem} {K : Ex → zAa → Mem → Prop} (h : K .normal T m) : zAR P cf Y 2 .skip T m K := zGn h
section
variable {P : Program} (k : zGN P) {acs os : List Nat} {sa so : V} {oa oo : zAe} {st : Bool} (par : Par acs os sa so oa oo)
include k par
theorem ask2 {L : List It} {A : Nat → zAe} {D : Nat → List Nat} {l : Nat} {z : Bool} {c : Nat} {OX : List V} {al : EnG} {ca : Nat} {tl : List (List Nat)} {ak i : Nat} (hi : i < 500) (hL : L.length ≤ 8) (hakn : ak < acs.length) {n : Nat} (hn : acs[ak] = n) {T : zAa} (hT : zAG T (slW sa so (tV 19 tl) ak i [])) : ∀ K' : Ex → zAa → Mem → Prop, (∀ T', zAG T' (slW sa so (tV 19 tl) ak i [(s15, .ptr 21 0)]) → K' .normal T' (gB oa oo st ⟨L, L, L, A, D, ak, ak, l, z, c, OX, [], [], .dead, al, ca, tl⟩ (bxN n))) → code pA (cfL P) Ys.none c3q2 T (gM oa oo st ⟨L, L, L, A, D, ak, ak, l, z, c, OX, [], [], .dead, al, ca, tl⟩) K' := by
 obtain ⟨ea, eo⟩ := (getA (k := k) par hakn).1
 have han := par.an
 have hn16 : n < 65536 := by rw [← hn]; exact par.al _ (List.getElem_mem _)
 have hof := zC5 n
 have hln := zCM n
 have hes : (enG .u64 (oL L)).length ≤ 1000 := by rw [zBn]; omega
 have hcal : zAw (LAw P) (fn 12) [.int .u16 ((n : Nat) : Int)] (gM oa oo st ⟨L, L, L, A, D, ak, ak, l, z, c, OX, [], [], .dead, al, ca, tl⟩) (rqV n) (gM oa oo st ⟨L, L, L, A, D, ak, ak, l, z, c, OX, [], [], .dead, al, ca, tl⟩) := up12 (cal_Fn (rqS_y hn16))
 intro K' hK'
 have hnn : nth (vU .u16 acs) ak = some (.int .u16 ((n : Nat) : Int)) := by rw [nth_vU hakn, hn]
 clear par
 subst ea; subst eo
 exact w2 _ _ (zBb P) _ _ _ _ _ _ _ _ _ _ _ _ _ _ _ _ _ _ _  so _ ak i _ ak hes (rqT n) (rqO n) (rqN n) (rqD n) (zBV n) (by omega) (by omega) hi (by omega) acs.length acs.length n han (vU .u16 acs) hakn hn16 hnn hcal T hT K' hK'
theorem ask_full {L : List It} {A : Nat → zAe} {D : Nat → List Nat} {l : Nat} {z : Bool} {c : Nat} {OX : List V} {al : EnG} {ca : Nat} {tl : List (List Nat)} {ak i : Nat} (hM : Mid ⟨L, L, L, A, D, ak, ak, l, z, c, OX, [], [], .dead, al, ca, tl⟩ [] ak) (h8 : L.length = 8) (hi : i < 500) (hakn : ak < acs.length)
  {T : zAa} (hT : zAG T (slW sa so (tV 19 tl) ak i [])) {K : Ex → zAa → Mem → Prop}
  (hK : ∀ T' m', Near oa oo st ⟨L, L, L, A, D, ak, ak, l, z, c, OX, [], [], .dead, al, ca, tl⟩ (slW sa so (tV 19 tl) ak i []) T' m' → K .normal T' m') :
  zAR P (cfL P) Ys.none 2 brk1 T (gM oa oo st ⟨L, L, L, A, D, ak, ak, l, z, c, OX, [], [], .dead, al, ca, tl⟩) K := by
 have va := par.a.lowV (.inl rfl)
 have vo := par.o.lowV (.inr rfl)
 have han := par.an
 obtain ⟨n, hn⟩ : ∃ n, acs[ak] = n := ⟨_, rfl⟩
 have hof := zC5 n
 have hln := zCM n
 have hes : (enG .u64 (oL L)).length ≤ 1000 := by rw [zBn]; omega
 have hp8 : ∀ y ∈ L, y.p < 8 := hM.p8
 have hlow : LowG oa oo ⟨L, L, L, A, D, ak, ak, l, z, c, OX, [], [], .dead, al, ca, tl⟩ := hM.low par.a.low par.o.low
 have hcon := askF_con k.mix k.O k.rq (nm := [97]) (st := st) (ch := st) (sz := 1024) (q := ak) (t := rqT n) (of := rqO n) (ln := rqN n) (d := rqD n) (by omega) (zBV n) (zIT n) (fl := fL (cp 0) L) (by rw [fL_len]; omega)
 have hcal := cal13_f (o0 := oa) (o1 := oo) (a0 := A 0) (a1 := A 1) (a2 := A 2) (a3 := A 3) (a4 := A 4) (a5 := A 5) (a6 := A 6) (a7 := A 7) (ox := .cells (xL D (.ptr 13 0) (hvV z L.length 16)) false) (os_ := zA4 st l (ovV z c 15) 14 [] false) (om := .map (enG .i64 (fmL L)) l false) (ob := dO z OX) (oh := dO z (zAo L)) (o17 := .map (enG .u64 (oL L)) ak false) (o18 := .map (enG .u64 al) ca false) (o19 := tO tl) (o20 := .dead) (o21 := bxN n) hp8 hcon
 refine zDN (ask2 (st := st) k par hi (by omega) hakn hn hT) fun T1 hT1 => ?_
 refine zDN (fun K' hK' => w3f _ _ (zBb P) _ _ _ _ _ _ _ _ _ _ _ _ _ _ _ _ _ _ _ _  sa so _ ak i _ ak hes (rqT n) (rqO n) (rqN n) (rqD n) (zBV n) (by omega) (by omega) 0 (by decide) hcal T1 hT1 K' hK') fun T2 hT2 => ?_
 refine zDN (fun K' hK' => w4f _ _ (zBb P) _ _ _ _ _ _ _ _ _ _ _ _ _ _ _ _ _ _ _ _ _  sa so _ ak i _ ak hes (by rw [zBn]; omega) T2 hT2 K' hK') fun T3 hT3 => ?_
 refine zDN (fun K' hK' => w5f _ _ (zBb P) _ _ _ _ _ _ _ _ _ _ _ _ _ _ _ _ _ _ _ _ _  sa so _ ak i _ ak hes T3 hT3 K' hK') fun T4 hT4 => ?_
 refine .condF (show T4.get s118 = .bool false from zIP hT4) (skipN (hK T4 _ (.inr ⟨[0, 1, 2, 3, 4, 5, 6, 7, 8, 9, 10, 11, 12, 13, 14, 15, 16, 17, 18, 19, 20], _, ?_, zEu hT4, zDh va vo rfl rfl rfl rfl rfl (zEf fun _ _ _ _ => rfl) rfl⟩)))
 have hfit : Fits oa oo st ⟨L, L, L, A, D, ak, ak, l, z, c, OX, [], [], .dead, al, ca, tl⟩ (y22 oa oo (cB st [] ak 3 .nilslice) (.map (enG .u64 (fL (fun p => 4 + p) L)) ak false) (A 0) (A 1) (A 2) (A 3) (A 4) (A 5) (A 6) (A 7) (.cells (xL D (.ptr 13 0) (hvV z L.length 16)) false) (zA4 st l (ovV z c 15) 14 [] false) (.map (enG .i64 (fmL L)) l false) (dO z OX) (dO z (zAo L)) (.map (enG .u64 (oL L)) ak false) (.map (enG .u64 al) ca false) (tO tl) .dead (bxN n)) (zAJ [0, 1, 2, 3, 4, 5, 6, 7, 8, 9, 10, 11, 12, 13, 14, 15, 16, 17, 18, 19, 20]) := ⟨by kernel_rfl, by kernel_rfl, by kernel_rfl, fit3 ⟨rfl, rfl, rfl, rfl, rfl, rfl, rfl, rfl⟩ hp8 (by kernel_rfl), fun j hj => by rcases k8 hj with rfl | rfl | rfl | rfl | rfl | rfl | rfl | rfl <;> exact .inl (by kernel_rfl), by kernel_rfl, by kernel_rfl, by kernel_rfl, by kernel_rfl, by kernel_rfl, by kernel_rfl, by kernel_rfl, by kernel_rfl, .inl (by kernel_rfl)⟩
 exact zIV rfl rfl hlow hfit
end
section
variable {P : Program} (k : zGN P) {acs os : List Nat} {sa so : V} {oa oo : zAe} {st : Bool} (par : Par acs os sa so oa oo)
include k par
theorem ask_part {g : Gs} {q i : Nat} (hM : Mid g [] q) (hi : i < 500) (hakn : q ≤ acs.length) (hgo : q < acs.length ∨ g.LF ≠ [])
  {T : zAa} (hT : zAG T (slW sa so (tV 19 g.tl) q i [])) {K : Ex → zAa → Mem → Prop}
  (hK : ∀ g' pn ak' T' m', Mid g' pn ak' → pn.length ≤ 1 → ak' ≤ acs.length → meas acs.length ak' g'.LF ≤ meas acs.length q g.LF → (os.length ≤ i → meas acs.length ak' g'.LF + 1 ≤ meas acs.length q g.LF ∨ g'.LF ≠ []) → Near oa oo st g' (slW sa so (tV 19 g'.tl) ak' i []) T' m' → K .normal T' m') :
  zAR P (cfL P) Ys.none 2 askC T (gM oa oo st g) K := by
 obtain ⟨L, LS, LO, A, D, q', qo, l, z, c, OX, ou, rp, R, al, ca, tl⟩ := g
 have e1 : L = LS := hM.FS
 have e2 : L = LO := by
  have hp := hM.pend
  generalize hpn : ([] : List Pn) = pn at hp
  cases hp with
  | nil => rfl
  | cons _ _ _ _ => cases hpn
 have e3 : q = q' := hM.q.symm
 have e4 : q = qo := hM.qo.symm
 have e5 : [] = ou := hM.ou.symm
 have e6 : [] = rp := hM.rp.symm
 have e7 : rO rp = R := hM.R.symm
 subst e1; subst e2; subst e3; subst e4; subst e5; subst e6; subst e7
 have han := par.an
 have hon := par.on
 have hL8 : L.length ≤ 8 := hM.len
 have hes : (enG .u64 (oL L)).length ≤ 1000 := by rw [zBn]; omega
 have same : ∀ T', zAG T' (slW sa so (tV 19 tl) q i [(s99, .bool false)]) → (os.length ≤ i → q = acs.length) → K .normal T' (gM oa oo st ⟨L, L, L, A, D, q, q, l, z, c, OX, [], [], rO [], al, ca, tl⟩) := fun T' hT' hq => hK _ [] q T' _ hM (Nat.zero_le _) hakn (Nat.le_refl _) (fun hle => .inr (by rcases hgo with h | h; (have := hq hle; omega); exact h)) (zGe (zEu hT'))
 have goes : q < acs.length → ∀ T', zAG T' (slW sa so (tV 19 tl) q i [(s99, .bool true)]) → zAR P (cfL P) Ys.none 2 (.cond (.t s99) brk1 .skip) T' (gM oa oo st ⟨L, L, L, A, D, q, q, l, z, c, OX, [], [], rO [], al, ca, tl⟩) K := by
  intro hlt T' hT'
  refine .condT (show T'.get s99 = .bool true from zIP hT') ?_
  by_cases h8 : L.length < 8
  ·refine ask_go k par hM h8 hi hlt (zEu hT') fun g' pn T2 m' hM' hpn hlen hN => ?_
   have hm : meas acs.length (q + 1) g'.LF + 1 ≤ meas acs.length q L := by show 2 * (acs.length - (q + 1)) + g'.LF.length + 1 ≤ 2 * (acs.length - q) + L.length; omega
   exact hK g' pn (q + 1) T2 m' hM' hpn (by omega) (by show meas acs.length (q + 1) g'.LF ≤ meas acs.length q L; omega) (fun _ => .inl hm) hN
  ·refine ask_full k par hM (by omega) hi hlt (zEu hT') fun T2 m' hN => ?_
   exact hK _ [] q T2 m' hM (Nat.zero_le _) hakn (Nat.le_refl _) (fun _ => .inr (show L ≠ [] from fun e => by rw [e] at h8; exact h8 (by decide))) hN
 by_cases hlt : q < acs.length
 ·by_cases hoi : os.length ≤ i
  ·refine zDN (fun K' hK' => w1b _ _ (zBb P) _ _ _ _ _ _ _ _ _ _ _ _ _ _ _ _ _ _ _ _  sa so _ q i _ q hes acs.length han par.a.len os.length hon par.o.len hi (by omega) hlt hoi T hT K' hK') fun T1 hT1 => goes hlt T1 hT1
  ·obtain ⟨eo1, eo2⟩ := par.o.get (show i < os.length by omega)
   have hb := par.ol _ (List.getElem_mem (show i < os.length by omega))
   have hnth := nth_vU (kd := .u8) (show i < os.length by omega)
   have hla := par.a.len
   have hL0 : L = [] ∨ 1 ≤ L.length := by
    cases L with
    | nil => exact .inl rfl
    | cons x l => exact .inr (by simp)
   by_cases h2 : os[i] % 2 = 0
   ·have hw : ∀ K' : Ex → zAa → Mem → Prop, (∀ T', zAG T' (slW sa so (tV 19 tl) q i [(s99, .bool true)]) → K' .normal T' (gM oa oo st ⟨L, L, L, A, D, q, q, l, z, c, OX, [], [], rO [], al, ca, tl⟩)) → code pA (cfL P) Ys.none c3q1 T (gM oa oo st ⟨L, L, L, A, D, q, q, l, z, c, OX, [], [], rO [], al, ca, tl⟩) K' := by
     clear goes same hK par
     subst eo1; subst eo2
     exact fun K' hK' => w1c _ _ (zBb P) _ _ _ _ _ _ _ _ _ _ _ _ _ _ _ _ _ _ _  sa _ q i _ q hes acs.length han hla hi (by omega) hlt os.length os.length os[i] hon (vU .u8 os) (by omega) hb hnth h2 T hT K' hK'
    exact zDN hw fun T1 hT1 => goes hlt T1 hT1
   ·rcases hL0 with hL0 | hL0
    ·have hw : ∀ K' : Ex → zAa → Mem → Prop, (∀ T', zAG T' (slW sa so (tV 19 tl) q i [(s99, .bool true)]) → K' .normal T' (gM oa oo st ⟨L, L, L, A, D, q, q, l, z, c, OX, [], [], rO [], al, ca, tl⟩)) → code pA (cfL P) Ys.none c3q1 T (gM oa oo st ⟨L, L, L, A, D, q, q, l, z, c, OX, [], [], rO [], al, ca, tl⟩) K' := by
      clear goes same hK par
      subst eo1; subst eo2
      exact fun K' hK' => w1d _ _ (zBb P) _ _ _ _ _ _ _ _ _ _ _ _ _ _ _ _ _ _ _  sa _ q i _ q hes acs.length han hla hi (by omega) hlt os.length os.length os[i] hon (vU .u8 os) (by omega) hb hnth (by omega) (by rw [zBn, hL0]; rfl) T hT K' hK'
     exact zDN hw fun T1 hT1 => goes hlt T1 hT1
    ·have hw : ∀ K' : Ex → zAa → Mem → Prop, (∀ T', zAG T' (slW sa so (tV 19 tl) q i [(s99, .bool false)]) → K' .normal T' (gM oa oo st ⟨L, L, L, A, D, q, q, l, z, c, OX, [], [], rO [], al, ca, tl⟩)) → code pA (cfL P) Ys.none c3q1 T (gM oa oo st ⟨L, L, L, A, D, q, q, l, z, c, OX, [], [], rO [], al, ca, tl⟩) K' := by
      clear goes same hK par
      subst eo1; subst eo2
      exact fun K' hK' => w1e _ _ (zBb P) _ _ _ _ _ _ _ _ _ _ _ _ _ _ _ _ _ _ _  sa _ q i _ q hes acs.length han hla hi (by omega) hlt os.length os.length os[i] hon (vU .u8 os) (by omega) hb hnth (by omega) (by rw [zBn]; exact hL0) T hT K' hK'
     exact zDN hw fun T1 hT1 => .condF (show T1.get s99 = .bool false from zIP hT1) (skipN (same T1 hT1 fun h => absurd h hoi))
 ·refine zDN (fun K' hK' => w1a _ _ (zBb P) _ _ _ _ _ _ _ _ _ _ _ _ _ _ _ _ _ _ _ _  sa so _ q i _ q hes acs.length han par.a.len hi (by omega) (by omega) T hT K' hK') fun T1 hT1 => .condF (show T1.get s99 = .bool false from zIP hT1) (skipN (same T1 hT1 fun _ => by omega))
end
end Go.Proofs.YtjekgdkaejgpdaaGreat
