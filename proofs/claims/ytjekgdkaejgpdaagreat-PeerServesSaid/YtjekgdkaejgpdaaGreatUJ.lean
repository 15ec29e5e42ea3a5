/- The law answers true. No condition. -/
import Derived.Test.YtjekgdkaejgpdaaGreatQJ
import Derived.Test.YtjekgdkaejgpdaaGreatPJ
import Derived.Test.YtjekgdkaejgpdaaGreatAM55
import Derived.Test.YtjekgdkaejgpdaaGreatAMJ
import Derived.Test.YtjekgdkaejgpdaaGreatAMR
import Derived.Test.YtjekgdkaejgpdaaGreatAM34
namespace Go.Proofs.YtjekgdkaejgpdaaGreat
open Go Go.AM
set_option maxRecDepth 100000
set_option maxHeartbeats 4000000
set_option linter.unusedVariables false
set_option linter.unusedSectionVars false
theorem zA2 {m : Mem} {o : zAe} {c : Nat} (h : c ≠ 9) : (m.set 9 o).get c = m.get c := by rw [Mem.get_set, if_neg h]
theorem vague_x (S : Nat) : Vague (xR 7 S) (xL (fun _ => z64) (.ptr S 0) .nilslice) := ⟨rfl, fun k v h => by
 match k, h with
 | 0, h => cases h; exact .inr ⟨rfl, 7, 0, rfl⟩
 | k + 1, h => exact .inl h⟩
abbrev gs0 : Gs := ⟨[], [], [], fun _ => .dead, fun _ => z64, 0, 0, 0, true, 0, [], [], [], .dead, [], 0, []⟩
theorem mid0 : Mid gs0 [] 0 :=
 ⟨rfl, (fun _ h => nomatch h), (fun _ h => nomatch h), fun _ => Low.dead, (fun _ h => nomatch h), Nat.zero_le _, (fun _ h => nomatch h), List.nodup_nil, (fun _ h => nomatch h), List.nodup_nil, List.nodup_nil, (fun _ h => nomatch h), (fun _ h => nomatch h), rfl, rfl, Nat.zero_le _, Nat.le_refl _, fun _ => rfl, zHj, ⟨fun _ => zFx 0 64, fun _ => zGQ (by decide) 64⟩, rfl, (fun _ h => nomatch h), (fun _ h => nomatch h), Nat.zero_le _, rfl, rfl, Nat.zero_le _, .nil, (fun _ h => nomatch h)⟩
section
variable {P : Program} (k : zGN P) {acs os : List Nat} {sa so : V} {oa oo : zAe} {st : Bool} (par : Par acs os sa so oa oo)
include k par
theorem law_tail {T : zAa} (hT : zAG T ((s1, sa) :: (s2, so) :: (s7, .ptr 2 0) :: (s8, .ptr 12 0) :: (s10, .map 17) :: (s11, .map 18) :: (s12, .nilslice) :: (s13, .int .i64 ((0 : Nat) : Int)) :: [])) {K : Ex → zAa → Mem → Prop} (hK : ∀ T' m', T'.get s6 = .bool true → K .ret T' m') :
  zAR P (cfL P) Ys.none 2 tail3 T (gM oa oo st gs0) K := by
 have hes : (enG .u64 (oL ([] : List It))).length ≤ 1000 := by decide
 refine .seq (fun e T' m' => e = .normal ∧ ∃ g' i, Mid g' [] acs.length ∧ g'.LF = [] ∧ zAG T' (slW sa so (tV 19 g'.tl) acs.length i []) ∧ m' = gM oa oo st g') ?_ ?_ (fun e T' m' hn h => absurd h.1 hn)
 ·refine zDN (l1 := slW sa so .nilslice 0 0 []) (M1 := gM oa oo st gs0) (fun K' hK' => l12 _ _ (zBb P) _ _ _ _ _ _ _ _ _ _ _ _ _ _ _ _ _ _ _ _  sa so _ 0 0 _ _ hes T hT K' hK') fun T1 hT1 => ?_
  exact rounds_all k par mid0 rfl hT1 fun g' i T' a b c => ⟨rfl, g', i, a, b, c, rfl⟩
 ·rintro T1 m1 ⟨_, g, i, hM, hF, hT1, rfl⟩
  obtain ⟨L, LS, LO, A, D, q', qo, l, z, c, OX, ou, rp, R, al, ca, tl⟩ := g
  have e0 : [] = L := hF.symm
  have e1 : L = LS := hM.FS
  have e2 : L = LO := by
   have hp := hM.pend
   generalize hpn : ([] : List Pn) = pn at hp
   cases hp with
   | nil => rfl
   | cons _ _ _ _ => cases hpn
  have e3 : acs.length = q' := hM.q.symm
  have e4 : acs.length = qo := hM.qo.symm
  have e5 : [] = ou := hM.ou.symm
  have e6 : [] = rp := hM.rp.symm
  have e7 : rO rp = R := hM.R.symm
  subst e1; subst e2; subst e0; subst e3; subst e4; subst e5; subst e6; subst e7
  exact law_end k par hM hT1 hK
theorem ready_t {T : zAa} {m : Mem} (h : Rdy sa so oa oo true 179 178 203 204 205 T m) {K : Ex → zAa → Mem → Prop} (hK : ∀ T' m', T'.get s6 = .bool true → K .ret T' m') :
  zAR P (cfL P) Ys.none 2 tail3 T m K := by
 have va := par.a.lowV (.inl rfl)
 have vo := par.o.lowV (.inr rfl)
 refine .vague h.x (vague_x 179) ?_
 have hlow : LowG oa oo gs0 := mid0.low par.a.low par.o.low
 have g9 : (m.set 9 (.cells (xL (fun _ => z64) (.ptr 179 0) .nilslice) false)).get 9 = some (.cells (xL (fun _ => z64) (.ptr 179 0) .nilslice) false) := by rw [Mem.get_set, if_pos rfl]
 have hfit : Fits oa oo true gs0 (m.set 9 (.cells (xL (fun _ => z64) (.ptr 179 0) .nilslice) false)) (zAJ [0, 1, 3, 2, 10, 11, 13, 14, 15, 16, 18, 19, 9, 179, 178, 5, 12, 203, 204, 17, 20]) :=
  ⟨(zA2 (by decide)).trans h.g0, (zA2 (by decide)).trans h.g1, (zA2 (by decide)).trans h.c, (zA2 (by decide)).trans h.f, fun _ _ => .inr rfl, g9, (zA2 (by decide)).trans h.s, (zA2 (by decide)).trans h.fm, (zA2 (by decide)).trans h.d5, (zA2 (by decide)).trans h.d12, (zA2 (by decide)).trans h.o, (zA2 (by decide)).trans h.al, (zA2 (by decide)).trans h.d17, .inr rfl⟩
 refine renN (zIV rfl (by decide) hlow hfit) h.t fun T1 hT1 => law_tail k par ?_ hK
 have e1 : sa.back [0, 1, 3, 2, 10, 11, 13, 14, 15, 16, 18, 19, 9, 179, 178, 5, 12, 203, 204, 17, 20] = sa := va _ rfl
 have e2 : so.back [0, 1, 3, 2, 10, 11, 13, 14, 15, 16, 18, 19, 9, 179, 178, 5, 12, 203, 204, 17, 20] = so := vo _ rfl
 obtain ⟨a1, a2, a3, a4, a5, a6, a7, a8, _⟩ := hT1
 exact ⟨a1.trans e1, a2.trans e2, a3.trans rfl, a4.trans rfl, a5.trans rfl, a6.trans rfl, a7.trans rfl, a8.trans rfl, trivial⟩
theorem ready_f {T : zAa} {m : Mem} (h : Rdy sa so oa oo false 131 130 161 162 163 T m) {K : Ex → zAa → Mem → Prop} (hK : ∀ T' m', T'.get s6 = .bool true → K .ret T' m') :
  zAR P (cfL P) Ys.none 2 tail3 T m K := by
 have va := par.a.lowV (.inl rfl)
 have vo := par.o.lowV (.inr rfl)
 refine .vague h.x (vague_x 131) ?_
 have hlow : LowG oa oo gs0 := mid0.low par.a.low par.o.low
 have g9 : (m.set 9 (.cells (xL (fun _ => z64) (.ptr 131 0) .nilslice) false)).get 9 = some (.cells (xL (fun _ => z64) (.ptr 131 0) .nilslice) false) := by rw [Mem.get_set, if_pos rfl]
 have hfit : Fits oa oo false gs0 (m.set 9 (.cells (xL (fun _ => z64) (.ptr 131 0) .nilslice) false)) (zAJ [0, 1, 3, 2, 10, 11, 13, 14, 15, 16, 18, 19, 9, 131, 130, 5, 12, 161, 162, 17, 20]) :=
  ⟨(zA2 (by decide)).trans h.g0, (zA2 (by decide)).trans h.g1, (zA2 (by decide)).trans h.c, (zA2 (by decide)).trans h.f, fun _ _ => .inr rfl, g9, (zA2 (by decide)).trans h.s, (zA2 (by decide)).trans h.fm, (zA2 (by decide)).trans h.d5, (zA2 (by decide)).trans h.d12, (zA2 (by decide)).trans h.o, (zA2 (by decide)).trans h.al, (zA2 (by decide)).trans h.d17, .inr rfl⟩
 refine renN (zIV rfl (by decide) hlow hfit) h.t fun T1 hT1 => law_tail k par ?_ hK
 have e1 : sa.back [0, 1, 3, 2, 10, 11, 13, 14, 15, 16, 18, 19, 9, 131, 130, 5, 12, 161, 162, 17, 20] = sa := va _ rfl
 have e2 : so.back [0, 1, 3, 2, 10, 11, 13, 14, 15, 16, 18, 19, 9, 131, 130, 5, 12, 161, 162, 17, 20] = so := vo _ rfl
 obtain ⟨a1, a2, a3, a4, a5, a6, a7, a8, _⟩ := hT1
 exact ⟨a1.trans e1, a2.trans e2, a3.trans rfl, a4.trans rfl, a5.trans rfl, a6.trans rfl, a7.trans rfl, a8.trans rfl, trivial⟩
end
structure Known2 (P : Program) : Prop where
 k : zGN P
 ft : zDx P ft.get
 o3 : FOk P 3 c3
 c25 : zCm P 25
 rep : RepH P
 la : zAv P (LAw P) id
section
variable {P : Program} (k : Known2 P)
include k
theorem law_con {acs os : List Nat} {sa so : V} {oa oo : zAe} (pa : ParU .u16 0 acs sa oa) (po : ParU .u8 1 os so oo) (hal : ∀ b ∈ acs, b < 65536) (hol : ∀ b ∈ os, b < 256) {st : Bool} : zAq P 3 ⟨[.bool st, sa, so], [oa, oo], .bool true, [], []⟩ := by
 have hcf := zAn (A := pA) zAX k.k.mix (tab := tb0) (P := P) zEX k.la 5
 refine conOk_walkN k.k.mix k.o3 hcf ?_
 show body1N P (cfL P) Ys.none c3 [.bool st, sa, so] (zB1 [oa, oo]) (zCi _)
 rw [c3_eq]
 refine body_retN (v := .bool true) rfl (fun K hK => ?_) (fun mm => ⟨rfl, trivial, trivial⟩)
 have hT0 : zAG (zHA 0 [.bool st, sa, so] zFv) [(s0, .bool st), (s1, sa), (s2, so)] := ⟨rfl, rfl, rfl, trivial⟩
 generalize zHA 0 [.bool st, sa, so] zFv = T at hT0
 show zAR P (cfL P) Ys.none 2 (.seq c3p0 (.seq c3p1 (.seq c3p2 (seqAll c3pre tail3)))) T (zCc 2 [(0, oa), (1, oo)]) K
 refine zDN (fun K' hK' => l0 _ (LAw P) (zBb P) oa oo st sa so T hT0 K' hK') fun T1 hT1 => ?_
 refine zDN (fun K' hK' => l1 _ (LAw P) (zBb P) oa oo st sa so cal_W T1 hT1 K' hK') fun T2 hT2 => ?_
 by_cases hna : acs.length ≤ 100
 ·by_cases hno : os.length ≤ 100
  ·refine zDN (fun K' hK' => l2 _ (LAw P) (zBb P) oa oo st sa so acs.length hna pa.len os.length hno po.len T2 hT2 K' hK') fun T3 hT3 => ?_
   have par : Par acs os sa so oa oo := ⟨pa, po, hal, hol, hna, hno⟩
   have hcR : CFOk P cfR id := zAn (A := pA) zAX k.k.mix (zF5 k.ft 25) (lastM_ok zAX k.k.mix (zF5 k.ft 25) (zIB k.c25 k.rep zBl) 30) 60
   cases st with
   | true =>
    have hr := castR (pre_t sa so oa oo T3) rdyQ_ok
    rw [zFw hT3] at hr
    exact seqAllN hcR (fun T4 m4 h4 => ready_t k.k par (rdy_of h4) hK) hr
   | false =>
    have hr := castR (pre_f sa so oa oo T3) rdyQ_ok
    rw [zFw hT3] at hr
    exact seqAllN hcR (fun T4 m4 h4 => ready_f k.k par (rdy_of h4) hK) hr
  ·exact seqRN (fun K' hK' => l2b _ (LAw P) (zBb P) oa oo st sa so acs.length hna pa.len os.length po.len (by omega) T2 hT2 K' hK') hK
 ·exact seqRN (fun K' hK' => l2a _ (LAw P) (zBb P) oa oo st sa so acs.length pa.len (by omega) T2 hT2 K' hK') hK
end
theorem int_nat {k : IntKind} (hk : k.signed = false) {n : Int} (h : (Lit.int k n).wf = true) : ∃ m : Nat, n = (m : Int) ∧ (m : Int) ≤ k.max := by
 simp only [Lit.wf, Bool.and_eq_true, decide_eq_true_eq] at h
 have h0 : 0 ≤ n := by
  have h1 := h.1
  have : k.min = 0 := by cases k <;> first | rfl | cases hk
  omega
 obtain ⟨m, rfl⟩ := Int.eq_ofNat_of_zero_le h0
 exact ⟨m, rfl, h.2⟩
structure ParR (w : World) (b : Nat) (va : V) (o : zAe) (v' : Value) where
 r : Option Img
 lt : ∀ i, r = some i → i.b < w.heap.size
 obj : ∀ i ρ, r = some i → OR ρ w i o
 val : ∀ ρ : Ren, ρ b = r → VR ρ va v'
theorem vU_at {kd : IntKind} {bs : List Nat} {x : Nat} {v : V} (h : (vU kd bs)[x]? = some v) : x < bs.length ∧ v = .int kd ((bs.getD x 0 : Nat) : Int) := by
 induction bs generalizing x with
 | nil => simp [vU] at h
 | cons b bs ih =>
  cases x with
  | zero => simp [vU] at h; exact ⟨by simp, h.symm⟩
  | succ x =>
   obtain ⟨h1, h2⟩ := ih (x := x) (by simpa [vU] using h)
   exact ⟨by simpa using h1, h2⟩
theorem par_u {kd : IntKind} (hs : kd.signed = false) {M : Nat} (hM : kd.max = ((M : Nat) : Int)) {w : World} {v' : Value} (h : zG6 w [.int kd] v') (b : Nat) : ∃ (bs : List Nat) (va : V) (o : zAe), ParU kd b bs va o ∧ (∀ a ∈ bs, a < M + 1) ∧ Nonempty (ParR w b va o v') := by
 rcases h with rfl | ⟨bb, off, len, cap, c, ty, lo, hi, rfl, h1, h2, h3, h4, h5⟩
 ·exact ⟨[], .nilslice, .dead, .nil rfl, (fun _ h => nomatch h), ⟨⟨none, (fun _ h => nomatch h), (fun _ _ h => nomatch h), fun _ _ => .nilslice⟩⟩⟩
 ·have hb := (Array.getElem?_eq_some_iff.1 h3).1
  by_cases h0 : len = 0
  ·subst h0
   exact ⟨[], .slice b 0 0 cap 1, .dead, .zero cap rfl, (fun _ h => nomatch h), ⟨⟨some ⟨bb, off + cap * 1, off, none⟩, fun i h => (by cases h; exact hb), fun i ρ h => trivial, fun ρ hρ => .slice (i := ⟨bb, off + cap * 1, off, none⟩) hρ (Nat.zero_le _) (Nat.le_refl _) (fun _ => by simp) (Nat.le_refl _)⟩⟩⟩
  ·have hact : ∀ i, i < len → ∃ a : Nat, a < M + 1 ∧ c[i + off]? = some (.int kd ((a : Nat) : Int)) := by
    intro i hi
    obtain ⟨_, q1, n1, rfl, w1⟩ := h5 i 0 _ hi rfl
    obtain ⟨m1, rfl, u1⟩ := int_nat hs w1
    have u1 : (m1 : Int) ≤ (M : Int) := hM ▸ u1
    exact ⟨m1, by omega, by simpa using q1⟩
   obtain ⟨bs, z1, z2⟩ := list_ofT len hact
   have h7 := h4 (Nat.mul_pos (by omega) (Nat.succ_pos 0))
   have h7 : off + cap * 1 ≤ c.size := h7
   subst z1
   have hne : bs ≠ [] := fun e => h0 (by rw [e]; rfl)
   refine ⟨bs, .slice b 0 bs.length bs.length 1, .cells (vU kd bs) true, .some hne, fun a ha => ?_, ⟨⟨some ⟨bb, c.size, off, none⟩, fun i h => (by cases h; exact hb), fun i ρ h => ?_, fun ρ hρ => .slice (i := ⟨bb, c.size, off, none⟩) hρ (Nat.le_refl _) h1 (fun _ => by simp) h7⟩⟩⟩
   ·obtain ⟨i, hi, rfl⟩ := List.getElem_of_mem ha
    have := (z2 i hi).1
    rwa [List.getD_eq_getElem?_getD, List.getElem?_eq_getElem hi] at this
   ·cases h
    refine ⟨c, ty, lo, hi, h3, rfl, fun x v hx => ?_, fun h => nomatch h⟩
    obtain ⟨g1, rfl⟩ := vU_at hx
    exact ⟨_, (z2 x g1).2, .int _ _⟩
def ren2 (r0 r1 : Option Img) : Ren
 | 0 => r0
 | 1 => r1
 | _ => none
theorem ParU.wr {kd : IntKind} {b : Nat} {bs : List Nat} {v : V} {o : zAe} (h : ParU kd b bs v o) : o.wr = false := by cases h <;> rfl
theorem law_calls {P : Program} (k : Known2 P) {w : World} (st : Bool) {v1 v2 : Value} (h1 : zG6 w [.int .u16] v1) (h2 : zG6 w [.int .u8] v2) : Calls P 3 #[.bool st, v1, v2] w fun e w' => e = .returned (.bool true) ∧ zCd w w' := by
 obtain ⟨acs, sa, oa, hA, ha, ⟨pa⟩⟩ := par_u (M := 65535) rfl rfl h1 0
 obtain ⟨os, so, oo, hO, ho, ⟨po⟩⟩ := par_u (M := 255) rfl rfl h2 1
 refine calls_ro (r := ren2 pa.r po.r) (law_con k (st := st) hA hO ha ho) (fun o ho => ?_) (fun x i h => ?_) (fun x i o h ho => ?_) ?_
 ·simp only [List.mem_cons, List.not_mem_nil, or_false] at ho
  rcases ho with rfl | rfl
  ·exact hA.wr
  ·exact hO.wr
 ·match x, h with
  | 0, h => exact ⟨show 0 < 2 by decide, pa.lt i h⟩
  | 1, h => exact ⟨show 1 < 2 by decide, po.lt i h⟩
 ·match x, h, ho with
  | 0, h, ho => cases ho; exact pa.obj i _ h
  | 1, h, ho => cases ho; exact po.obj i _ h
 ·exact .cons (.bool st) (.cons (pa.val _ rfl) (.cons (po.val _ rfl) .nil))
abbrev JoinH (P : Program) : Prop := ∀ (bk o c : Nat) (xs : List ByteArray) (sep : ByteArray) (w : World), (∀ (j : Nat) x, xs[j]? = some x → w.cell? ⟨bk, o + j, none⟩ = some (.string x)) → bk < w.heap.size → xs.length ≤ 140737488355328 → xs.length ≤ c → (Lib.join (xs.map (·.data.toList)) sep.data.toList).length ≤ 140737488355328 →
   Calls P 14 #[.slice (some ⟨bk, o, none⟩) xs.length c, .string sep] w fun e w' => e = .returned (.string ⟨(Lib.join (xs.map (·.data.toList)) sep.data.toList).toArray⟩) ∧ Go.RowKit.Below w.heap.size w w'
theorem awakeRun : zAt zGm (without ft.get 25) (zI1 25 lastF) 60 Ys.none (.func (.func 4) [] []) [] ⟨0, .leaf⟩ endB = true := by kernel_rfl
section
variable {P : Program} (mix : P.follows .mixedOrders = true) (O : Oks P) (hft : zDx P ft.get) (o3 : FOk P 3 c3) (o4 : FOk P 4 c4) (n25 : zCm P 25) (rep : RepH P) (n14 : zCm P 14) (hj : JoinH P)
include mix hft n25 rep in
theorem awakeCalls (w : World) : Calls P 4 #[] w fun e w' => e = .returned (.bool true) ∧ zCd w w' :=
 open_calls (d := 59) mix (zF5 hft 25) (zIB n25 rep lastF_ok) (f := 4) (af := c4) rfl .nil awakeRun w
include mix O hft o3 o4 n25 rep n14 hj in
theorem known2_of : Known2 P := by
 have h3 : zAv P lb3 id := r53_ok mix O.o107 O.o87 zBl
 have hbq : zAv P lbq id := r51_ok mix O.o48 O.o76 O.o85 (r53_ok mix O.o107 O.o87 (r58_ok mix O.o107 O.o92 (r63_ok mix O.o107 O.o108 (r52_ok mix h3 O.o86 zBl))))
 have hbc : zAv P lbc id := lb5_ok mix O.o107 O.o108 O.o87 O.o92 O.o88 O.o89 O.o60 O.o48 O.o76 O.o85 O.o86 O.o62 O.o90
 have hbh : zAv P lbh id := r95_ok mix hbq O.o95 (r110_ok mix O.o110 (r100_ok mix O.o69 O.o97 O.o100 (r101_ok mix O.o69 O.o97 O.o101 (r102_ok mix O.o69 O.o97 O.o102 zBl))))
 have hbe : zAv P lbe id := r95_ok mix hbq O.o95 (r100_ok mix O.o69 O.o97 O.o100 (r101_ok mix O.o69 O.o97 O.o101 (r103_ok mix O.o69 O.o97 O.o103 zBl)))
 have hrr : zAv P (zAi 25 rrR la0) id := r25_ok n25 rep zBl
 exact ⟨⟨mix, O, hbc, hbh, hbe, rq39_ok mix O.o69 O.o97 O.o39 zBl, hrr⟩, hft, o3, n25, rep,
  lastW_ok o4 (awakeCalls mix hft n25 rep) (zBQ (zAx O.o7) (fun _ h => h) (zBQ (zAx O.o8) (fun _ h => h) (zBQ (zAx O.o9) (fun _ h => h) (r12_ok mix O.o12 hrr (zBQ (zAx O.o13) (fun _ h => h) (zBQ (zAx O.o15) (fun _ h => h) (zBQ (zAx O.o16) (fun _ h => h) (r17_ok mix O.o17 (zBQ (zAx O.o18) (fun _ h => h) (zBQ (zAx O.o19) (fun _ h => h) (zBQ (zAx O.o20) (fun _ h => h) (zBQ (zAx O.o21) (fun _ h => h) (lastJoin_ok n14 hj zBl)))))))))))))⟩
end
end Go.Proofs.YtjekgdkaejgpdaaGreat
