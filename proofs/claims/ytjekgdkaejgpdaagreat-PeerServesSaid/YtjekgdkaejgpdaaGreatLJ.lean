/- The law's steps. No condition. -/
import Derived.Test.YtjekgdkaejgpdaaGreatKJ
namespace Go.Proofs.YtjekgdkaejgpdaaGreat
open Go Go.AM
set_option maxRecDepth 100000
set_option maxHeartbeats 4000000
set_option linter.unusedVariables false
set_option linter.unusedSectionVars false
def rmI (k : Nat) : List It → List It
 | [] => []
 | x :: l => if k = x.ck then l else x :: rmI k l
def rmT (k : Nat) : List It → List It
 | [] => []
 | x :: l => if k = x.tg then l else x :: rmT k l
theorem del_o (k : Nat) : ∀ L : List It, delG k (oL L) = oL (rmI k L)
 | [] => rfl
 | x :: l => by
  show (if k = x.ck then oL l else _ :: delG k (oL l)) = _
  unfold rmI
  by_cases h : k = x.ck
  ·rw [if_pos h, if_pos h]
  ·rw [if_neg h, if_neg h, del_o k l]; rfl
theorem del_f (f : Nat → Nat) (k : Nat) : ∀ L : List It, delG k (fL f L) = fL f (rmI k L)
 | [] => rfl
 | x :: l => by
  show (if k = x.ck then fL f l else _ :: delG k (fL f l)) = _
  unfold rmI
  by_cases h : k = x.ck
  ·rw [if_pos h, if_pos h]
  ·rw [if_neg h, if_neg h, del_f f k l]; rfl
theorem del_m (k : Nat) : ∀ L : List It, delG k (fmL L) = fmL (rmT k L)
 | [] => rfl
 | x :: l => by
  show (if k = x.tg then fmL l else _ :: delG k (fmL l)) = _
  unfold rmT
  by_cases h : k = x.tg
  ·rw [if_pos h, if_pos h]
  ·rw [if_neg h, if_neg h, del_m k l]; rfl
theorem rmI_sub {k : Nat} : ∀ {L : List It} {y : It}, y ∈ rmI k L → y ∈ L
 | [], _, h => h
 | x :: l, y, h => by
  unfold rmI at h
  split at h
  ·exact List.mem_cons_of_mem _ h
  ·rcases List.mem_cons.1 h with rfl | h
   ·exact List.mem_cons_self ..
   ·exact List.mem_cons_of_mem _ (rmI_sub h)
theorem rmI_len {k : Nat} : ∀ {L : List It} {x : It}, x ∈ L → x.ck = k → (rmI k L).length + 1 = L.length
 | y :: l, x, h, e => by
  unfold rmI
  by_cases hk : k = y.ck
  ·rw [if_pos hk]; rfl
  ·rw [if_neg hk]
   rcases List.mem_cons.1 h with rfl | h
   ·exact absurd e.symm hk
   ·have := rmI_len h e
    simp only [List.length_cons]; omega
abbrev NdC (L : List It) : Prop := (L.map It.ck).Nodup
theorem rmI_nd {k : Nat} : ∀ {L : List It}, NdC L → NdC (rmI k L)
 | [], h => h
 | x :: l, h => by
  have h2 := List.nodup_cons.1 (show (x.ck :: l.map It.ck).Nodup from h)
  unfold rmI
  by_cases hk : k = x.ck
  ·rw [if_pos hk]; exact h2.2
  ·rw [if_neg hk]
   refine List.nodup_cons.2 ⟨fun hm => h2.1 ?_, rmI_nd h2.2⟩
   obtain ⟨y, hy, e⟩ := List.mem_map.1 hm
   exact List.mem_map.2 ⟨y, rmI_sub hy, e⟩
theorem get_o {L : List It} (h : NdC L) {x : It} (hx : x ∈ L) : zDd x.ck (oL L) = some (rqV x.n) := by
 induction L with
 | nil => cases hx
 | cons z l ih =>
  have h2 := List.nodup_cons.1 (show (z.ck :: l.map It.ck).Nodup from h)
  show (if x.ck = z.ck then some (rqV z.n) else zDd x.ck (oL l)) = _
  rcases List.mem_cons.1 hx with h3 | hx
  ·subst h3; rw [if_pos rfl]
  ·rw [if_neg fun e => h2.1 (List.mem_map.2 ⟨x, hx, e⟩)]
   exact ih h2.2 hx
theorem get_f {f : Nat → Nat} {L : List It} (h : NdC L) {x : It} (hx : x ∈ L) : zDd x.ck (fL f L) = some (.ptr (f x.p) 0) := by
 induction L with
 | nil => cases hx
 | cons z l ih =>
  have h2 := List.nodup_cons.1 (show (z.ck :: l.map It.ck).Nodup from h)
  show (if x.ck = z.ck then some (V.ptr (f z.p) 0) else zDd x.ck (fL f l)) = _
  rcases List.mem_cons.1 hx with h3 | hx
  ·subst h3; rw [if_pos rfl]
  ·rw [if_neg fun e => h2.1 (List.mem_map.2 ⟨x, hx, e⟩)]
   exact ih h2.2 hx
theorem zEI {l : EnG} {k : Nat} (h : ∀ x ∈ l, x.1 ≠ k) : zDd k l = none := by
 induction l with
 | nil => rfl
 | cons x l ih =>
  obtain ⟨j, a, n⟩ := x
  show (if k = j then some a else zDd k l) = none
  rw [if_neg fun e => h _ (List.mem_cons_self ..) e.symm]
  exact ih fun y hy => h y (List.mem_cons_of_mem _ hy)
theorem get_oN {L : List It} {k : Nat} (h : ∀ x ∈ L, x.ck ≠ k) : zDd k (oL L) = none := zEI fun x hx => by
 obtain ⟨y, hy, rfl⟩ := List.mem_map.1 hx; exact h y hy
theorem get_fN {f : Nat → Nat} {L : List It} {k : Nat} (h : ∀ x ∈ L, x.ck ≠ k) : zDd k (fL f L) = none := zEI fun x hx => by
 obtain ⟨y, hy, rfl⟩ := List.mem_map.1 hx; exact h y hy
theorem get_mN {L : List It} {k : Nat} (h : ∀ x ∈ L, x.tg ≠ k) : zDd k (fmL L) = none := zEI fun x hx => by
 obtain ⟨y, hy, rfl⟩ := List.mem_map.1 hx; exact h y hy
abbrev NdT (L : List It) : Prop := (L.map It.tg).Nodup
theorem get_m {L : List It} (h : NdT L) {x : It} (hx : x ∈ L) : zDd x.tg (fmL L) = some (fmE x).2.1 := by
 induction L with
 | nil => cases hx
 | cons z l ih =>
  have h2 := List.nodup_cons.1 (show (z.tg :: l.map It.tg).Nodup from h)
  show (if x.tg = z.tg then some (fmE z).2.1 else zDd x.tg (fmL l)) = _
  rcases List.mem_cons.1 hx with h3 | hx
  ·subst h3; rw [if_pos rfl]
  ·rw [if_neg fun e => h2.1 (List.mem_map.2 ⟨x, hx, e⟩)]
   exact ih h2.2 hx
theorem rmI_erase {L : List It} (h : NdC L) : ∀ {k : Nat} {x : It}, L[k]? = some x → rmI x.ck L = L.eraseIdx k := by
 induction L with
 | nil => intro k x hx; simp at hx
 | cons z l ih =>
  have h2 := List.nodup_cons.1 (show (z.ck :: l.map It.ck).Nodup from h)
  intro k x hx
  cases k with
  | zero => simp at hx; subst hx; unfold rmI; rw [if_pos rfl]; rfl
  | succ k =>
   have hx' : l[k]? = some x := by simpa using hx
   unfold rmI
   rw [if_neg fun e => h2.1 (List.mem_map.2 ⟨x, List.mem_of_getElem? hx', e⟩), ih h2.2 hx']
   rfl
theorem rmT_erase {L : List It} (h : NdT L) : ∀ {k : Nat} {x : It}, L[k]? = some x → rmT x.tg L = L.eraseIdx k := by
 induction L with
 | nil => intro k x hx; simp at hx
 | cons z l ih =>
  have h2 := List.nodup_cons.1 (show (z.tg :: l.map It.tg).Nodup from h)
  intro k x hx
  cases k with
  | zero => simp at hx; subst hx; unfold rmT; rw [if_pos rfl]; rfl
  | succ k =>
   have hx' : l[k]? = some x := by simpa using hx
   unfold rmT
   rw [if_neg fun e => h2.1 (List.mem_map.2 ⟨x, List.mem_of_getElem? hx', e⟩), ih h2.2 hx']
   rfl
theorem zI0 {L : List It} (h : NdC L) {x : It} (hx : ∀ y ∈ L, y.ck ≠ x.ck) : NdC (L ++ [x]) := by
 show ((L ++ [x]).map It.ck).Nodup
 rw [List.map_append, List.nodup_append]
 refine ⟨h, by simp, fun a ha b hb => ?_⟩
 obtain ⟨y, hy, rfl⟩ := List.mem_map.1 ha
 simp at hb; subst hb
 exact hx y hy
theorem ndT_snoc {L : List It} (h : NdT L) {x : It} (hx : ∀ y ∈ L, y.tg ≠ x.tg) : NdT (L ++ [x]) := by
 show ((L ++ [x]).map It.tg).Nodup
 rw [List.map_append, List.nodup_append]
 refine ⟨h, by simp, fun a ha b hb => ?_⟩
 obtain ⟨y, hy, rfl⟩ := List.mem_map.1 ha
 simp at hb; subst hb
 exact hx y hy
theorem rmI_snoc {L : List It} {x : It} (h : ∀ y ∈ L, y.ck ≠ x.ck) : rmI x.ck (L ++ [x]) = L := by
 induction L with
 | nil => show (if x.ck = x.ck then [] else _) = _; rw [if_pos rfl]
 | cons z l ih =>
  show (if x.ck = z.ck then l ++ [x] else z :: rmI x.ck (l ++ [x])) = _
  rw [if_neg fun e => h z (List.mem_cons_self ..) e.symm, ih fun y hy => h y (List.mem_cons_of_mem _ hy)]
theorem free_p {L : List It} (h : L.length < 8) : ∃ p, p < 8 ∧ ∀ x ∈ L, x.p ≠ p := by
 have key : ∀ (n : Nat) (L : List It), L.length < n → ∃ p, p < n ∧ ∀ x ∈ L, x.p ≠ p := by
  intro n
  induction n with
  | zero => intro L h; exact absurd h (Nat.not_lt_zero _)
  | succ n ih =>
   intro L h
   by_cases hn : ∃ x ∈ L, x.p = n
   ·obtain ⟨x, hx, e⟩ := hn
    have hlt : (L.filter fun y => decide (y.p ≠ n)).length < L.length := by
     have h1 := List.length_filter_lt_length_iff_exists (p := fun y : It => decide (y.p ≠ n)) (l := L)
     exact h1.2 ⟨x, hx, by simp [e]⟩
    obtain ⟨p, hp, hf⟩ := ih (L.filter fun y => decide (y.p ≠ n)) (by omega)
    refine ⟨p, by omega, fun y hy e2 => ?_⟩
    by_cases hyn : y.p = n
    ·omega
    ·exact hf y (List.mem_filter.2 ⟨hy, by simpa using hyn⟩) e2
   ·exact ⟨n, by omega, fun y hy e => hn ⟨y, hy, e⟩⟩
 exact key 8 L h
def Told (al : EnG) (tl : List (List Nat)) (x : It) (d : List Nat) : Prop := zDd x.ck al = none ∨ ∃ j, j < tl.length ∧ zDd x.ck al = some (.int .i64 (((j + 1 : Nat)) : Int)) ∧ tl[j]? = some d
abbrev Pn := It × Nat × List Nat
def pnR (l : List Pn) : List zEq := l.map fun t => (t.2.1, t.1.ck, t.2.2)
inductive zF1 (al : EnG) (tl : List (List Nat)) : List It → List Pn → List It → Prop
 | nil {L : List It} : zF1 al tl L [] L
 | cons {L F : List It} {x : It} {e : Nat} {d : List Nat} {l : List Pn} (hx : x ∈ L) (hr : RgtOk e (rqT x.n) (rqO x.n) (rqN x.n) d.length) (ht : Told al tl x d) (h : zF1 al tl (rmI x.ck L) l F) : zF1 al tl L ((x, e, d) :: l) F
abbrev flI (x : It) : zAe := flO (rqT x.n) x.ck (rqO x.n) (rqN x.n) (rqD x.n)
structure Mid (g : Gs) (pn : List Pn) (ak : Nat) : Prop where
 FS : g.LF = g.LS
 p8 : ∀ x ∈ g.LF, x.p < 8
 A : ∀ x ∈ g.LF, g.A x.p = flI x
 lowA : ∀ j, Low (g.A j)
 pnd : ∀ x ∈ g.LF, ∀ y ∈ g.LF, x.p = y.p → x = y
 len : g.LF.length ≤ 8
 tg : ∀ x ∈ g.LS, 1 ≤ x.tg ∧ x.tg ≤ g.l
 ndT : NdT g.LS
 ck : ∀ x ∈ g.LO, 1 ≤ x.ck ∧ x.ck ≤ g.q
 ndC : NdC g.LO
 ndF : NdC g.LF
 ckF : ∀ x ∈ g.LF, 1 ≤ x.ck ∧ x.ck ≤ g.q
 good : ∀ x ∈ g.LS, Good x.n
 q : g.q = ak
 qo : g.qo = ak
 akb : ak ≤ 100
 l : g.l ≤ g.q
 z : g.z = true → g.LS = []
 OX : pls g.OX
 D : DkOk g.D
 ou : g.ou = []
 plal : PlE g.al
 kal : ∀ e ∈ g.al, 1 ≤ e.1 ∧ e.1 ≤ g.q
 tl : g.tl.length ≤ ak
 rp : g.rp = pnR pn
 R : g.R = rO g.rp
 pn2 : pn.length ≤ 2
 pend : zF1 g.al g.tl g.LO pn g.LF
 told : ∀ x ∈ g.LF, zDd x.ck g.al = none ∨ g.LF = [x] ∧ rqT x.n = 0 ∧ Told g.al g.tl x (duS g.D x.n (rqG x.n))
theorem Mid.low {g : Gs} {pn : List Pn} {ak : Nat} (h : Mid g pn ak) {oa oo : zAe} (h0 : Low oa) (h1 : Low oo) : LowG oa oo g :=
 ⟨h0, h1, h.lowA, h.OX, h.plal, by rw [h.R]; exact low_rO _, h.p8⟩
abbrev cfL (P : Program) : Ys Prop → CF Prop := zAt pA tb0 (LAw P) 5
abbrev slW (sa so tv : V) (ak i : Nat) (more : List (Sl × V)) : List (Sl × V) := (s1, sa) :: (s2, so) :: (s7, .ptr 2 0) :: (s8, .ptr 12 0) :: (s10, .map 17) :: (s11, .map 18) :: (s12, tv) :: (s13, .int .i64 ((ak : Nat) : Int)) :: (s14, .int .i64 ((i : Nat) : Int)) :: more
abbrev bxN (n : Nat) : zAe := .cells [.int .u16 0, .int .u16 ((rqT n : Nat) : Int), .int .u64 0, .int .u64 ((rqO n : Nat) : Int), .int .u32 ((rqN n : Nat) : Int), .str (rqD n)] false
theorem low_bx (n : Nat) : Low (bxN n) := zB2 ⟨fun _ => rfl, fun _ => rfl⟩
structure zGN (P : Program) : Prop where
 mix : P.follows .mixedOrders = true
 O : Oks P
 bc : zAv P lbc id
 bh : zAv P lbh id
 be : zAv P lbe id
 rq : zAv P (zAi 39 rqR la0) id
 rr : zAv P (zAi 25 rrR la0) id
def qA : Nat → List Nat
 | 0 => [0, 1, 2, 3, 22, 5, 6, 7, 8, 9, 10, 11, 12, 13, 14, 15, 16, 17, 18, 19, 20, 21]
 | 1 => [0, 1, 2, 3, 4, 22, 6, 7, 8, 9, 10, 11, 12, 13, 14, 15, 16, 17, 18, 19, 20, 21]
 | 2 => [0, 1, 2, 3, 4, 5, 22, 7, 8, 9, 10, 11, 12, 13, 14, 15, 16, 17, 18, 19, 20, 21]
 | 3 => [0, 1, 2, 3, 4, 5, 6, 22, 8, 9, 10, 11, 12, 13, 14, 15, 16, 17, 18, 19, 20, 21]
 | 4 => [0, 1, 2, 3, 4, 5, 6, 7, 22, 9, 10, 11, 12, 13, 14, 15, 16, 17, 18, 19, 20, 21]
 | 5 => [0, 1, 2, 3, 4, 5, 6, 7, 8, 22, 10, 11, 12, 13, 14, 15, 16, 17, 18, 19, 20, 21]
 | 6 => [0, 1, 2, 3, 4, 5, 6, 7, 8, 9, 22, 11, 12, 13, 14, 15, 16, 17, 18, 19, 20, 21]
 | _ => [0, 1, 2, 3, 4, 5, 6, 7, 8, 9, 10, 22, 12, 13, 14, 15, 16, 17, 18, 19, 20, 21]
theorem qA_p {p : Nat} (hp : p < 8) : zAJ (qA p) (4 + p) = 22 := by
 rcases k8 hp with rfl | rfl | rfl | rfl | rfl | rfl | rfl | rfl <;> rfl
theorem qA_o {p j : Nat} (hp : p < 8) (hj : j < 8) (h : j ≠ p) : zAJ (qA p) (4 + j) = 4 + j := by
 rcases k8 hp with rfl | rfl | rfl | rfl | rfl | rfl | rfl | rfl <;> rcases k8 hj with rfl | rfl | rfl | rfl | rfl | rfl | rfl | rfl <;> first | rfl | exact absurd rfl h
theorem fL_snoc (f : Nat → Nat) (L : List It) (x : It) : enG .u64 (fL f (L ++ [x])) = enG .u64 (fL f L) ++ [(.int .u64 ((x.ck : Nat) : Int), .ptr (f x.p) 0, x.ck - 1)] := by
 unfold fL; rw [List.map_append, zJa]; rfl
theorem oL_snoc (L : List It) (x : It) : enG .u64 (oL (L ++ [x])) = enG .u64 (oL L) ++ [(.int .u64 ((x.ck : Nat) : Int), rqV x.n, x.ck - 1)] := by
 unfold oL; rw [List.map_append, zJa]; rfl
theorem zBn (L : List It) : (enG .u64 (oL L)).length = L.length := by rw [zFi]; exact List.length_map _
theorem fL_len (f : Nat → Nat) (L : List It) : (fL f L).length = L.length := List.length_map _
section
variable {P : Program} (k : zGN P) {sa so : V} {oa oo : zAe} {st : Bool} (va : LowV sa) (vo : LowV so) (h0 : Low oa) (h1 : Low oo)
include k va vo h0 h1
theorem ask3 {L : List It} {A : Nat → zAe} {D : Nat → List Nat} {l : Nat} {z : Bool} {c : Nat} {OX : List V} {al : EnG} {ca : Nat} {tl : List (List Nat)} {ak i n : Nat} {x : It} (hx : x.ck = ak + 1) (hn : x.n = n) (hp : x.p < 8) (hfree : ∀ y ∈ L, y.p ≠ x.p) (h8 : L.length < 8) (hak : ak ≤ 99) (hp8 : ∀ y ∈ L, y.p < 8) (hck : ∀ y ∈ L, y.ck ≠ ak + 1) (lowA : ∀ j, Low (A j)) (hOX : pls OX) (hal : PlE al)
  {T : zAa} (hT : zAG T (slW sa so (tV 19 tl) ak i [(s15, .ptr 21 0)])) {K : Ex → zAa → Mem → Prop} {cc : zAz}
  (hc : ∀ T', zAG T' (slW sa so (tV 19 tl) ak i [(s15, .ptr 21 0), (s16, .int .u64 (((ak + 1 : Nat)) : Int)), (s17, .int .i64 0)]) → zAR P (cfL P) Ys.none 2 cc T' (gB oa oo st ⟨L ++ [x], L, L, zA5 A x.p (flI x), D, ak + 1, ak, l, z, c, OX, rqB (ak + 1) n, [], .dead, al, ca, tl⟩ (bxN n)) K) :
  zAR P (cfL P) Ys.none 2 (.seq c3q3 cc) T (gB oa oo st ⟨L, L, L, A, D, ak, ak, l, z, c, OX, [], [], .dead, al, ca, tl⟩ (bxN n)) K := by
 have hof := zC5 n
 have hln := zCM n
 have hes : (enG .u64 (oL L)).length ≤ 1000 := by rw [zBn]; omega
 have hcon := ask_con k.mix k.O (la := la0) k.rq (nm := [97]) (st := st) (ch := st) (sz := 1024) (q := ak) (t := rqT n) (of := rqO n) (ln := rqN n) (d := rqD n) (by omega) (zBV n) (zIT n) (by omega) (by omega) (fun h => rqD_1 h) (fun h => by rw [rqD_0 h]; rfl) (fl := fL (cp 0) L) (by rw [fL_len]; exact h8) (get_fN hck)
 have hcal := cal13_o (o0 := oa) (o1 := oo) (a0 := A 0) (a1 := A 1) (a2 := A 2) (a3 := A 3) (a4 := A 4) (a5 := A 5) (a6 := A 6) (a7 := A 7) (ox := .cells (xL D (.ptr 13 0) (hvV z L.length 16)) false) (os_ := zA4 st l (ovV z c 15) 14 [] false) (om := .map (enG .i64 (fmL L)) l false) (ob := dO z OX) (oh := dO z (zAo L)) (o17 := .map (enG .u64 (oL L)) ak false) (o18 := .map (enG .u64 al) ca false) (o19 := tO tl) (o20 := .dead) (o21 := bxN n) hp8 hcon
 refine zDN (fun K' hK' => w3o _ _ (zBb P) _ _ _ _ _ _ _ _ _ _ _ _ _ _ _ _ _ _ _ _ _ _ _ sa so _ ak i _ _ hes (rqT n) (rqO n) (rqN n) (rqD n) (zBV n) (by omega) (by omega) (ak + 1) (by omega) hcal T hT K' hK') fun T1 hT1 => ?_
 have hlow : LowG oa oo ⟨L ++ [x], L, L, zA5 A x.p (flI x), D, ak + 1, ak, l, z, c, OX, rqB (ak + 1) n, [], .dead, al, ca, tl⟩ := by
  refine ⟨h0, h1, fun j => ?_, hOX, hal, Low.dead, fun y hy => ?_⟩
  ·show Low (zA5 A x.p (flI x) j)
   unfold zA5; split
   ·exact zB2 ⟨fun _ => rfl, fun _ => rfl⟩
   ·exact lowA j
  ·rcases List.mem_append.1 hy with hy | hy
   ·exact hp8 y hy
   ·simp at hy; subst hy; exact hp
 have hF : enG .u64 (fL (fun p => zAJ (qA x.p) (4 + p)) (L ++ [x])) = enG .u64 (fL (fun p => 4 + p) L) ++ [(.int .u64 (((ak + 1 : Nat)) : Int), .ptr 22 0, ak)] := by
  rw [fL_snoc, qA_p hp, hx, zGX (g := fun p => 4 + p) fun y hy => qA_o hp (hp8 y hy) (hfree y hy)]; rfl
 obtain ⟨ck, tg, n', p⟩ := x
 have hn : n' = n := hn
 have hx : ck = ak + 1 := hx
 subst hn; subst hx
 have hfit : Fits oa oo st ⟨L ++ [⟨ak + 1, tg, n', p⟩], L, L, zA5 A p (flI ⟨ak + 1, tg, n', p⟩), D, ak + 1, ak, l, z, c, OX, rqB (ak + 1) n', [], .dead, al, ca, tl⟩ (y23 oa oo (cB st (rqB (ak + 1) n') (ak + 1) 3 .nilslice) (.map (enG .u64 (fL (fun p => 4 + p) L) ++ [(.int .u64 (((ak + 1 : Nat)) : Int), .ptr 22 0, ak)]) (ak + 1) false) (A 0) (A 1) (A 2) (A 3) (A 4) (A 5) (A 6) (A 7) (.cells (xL D (.ptr 13 0) (hvV z L.length 16)) false) (zA4 st l (ovV z c 15) 14 [] false) (.map (enG .i64 (fmL L)) l false) (dO z OX) (dO z (zAo L)) (.map (enG .u64 (oL L)) ak false) (.map (enG .u64 al) ca false) (tO tl) .dead (bxN n') (flO (rqT n') (ak + 1) (rqO n') (rqN n') (rqD n'))) (zAJ (qA p)) := by
  have hp : p < 8 := hp
  rcases k8 hp with rfl | rfl | rfl | rfl | rfl | rfl | rfl | rfl <;> exact ⟨by kernel_rfl, by kernel_rfl, by kernel_rfl, by rw [hF]; kernel_rfl, fun j hj => by rcases k8 hj with rfl | rfl | rfl | rfl | rfl | rfl | rfl | rfl <;> exact .inl (by kernel_rfl), by kernel_rfl, by kernel_rfl, by kernel_rfl, by kernel_rfl, by kernel_rfl, by kernel_rfl, by kernel_rfl, by kernel_rfl, .inl (by kernel_rfl)⟩
 have hren : RenM 2 (qA p) (y23 oa oo (cB st (rqB (ak + 1) n') (ak + 1) 3 .nilslice) (.map (enG .u64 (fL (fun p => 4 + p) L) ++ [(.int .u64 (((ak + 1 : Nat)) : Int), .ptr 22 0, ak)]) (ak + 1) false) (A 0) (A 1) (A 2) (A 3) (A 4) (A 5) (A 6) (A 7) (.cells (xL D (.ptr 13 0) (hvV z L.length 16)) false) (zA4 st l (ovV z c 15) 14 [] false) (.map (enG .i64 (fmL L)) l false) (dO z OX) (dO z (zAo L)) (.map (enG .u64 (oL L)) ak false) (.map (enG .u64 al) ca false) (tO tl) .dead (bxN n') (flO (rqT n') (ak + 1) (rqO n') (rqN n') (rqD n'))) (gB oa oo st ⟨L ++ [⟨ak + 1, tg, n', p⟩], L, L, zA5 A p (flI ⟨ak + 1, tg, n', p⟩), D, ak + 1, ak, l, z, c, OX, rqB (ak + 1) n', [], .dead, al, ca, tl⟩ (bxN n')) := by
  have hp : p < 8 := hp
  rcases k8 hp with rfl | rfl | rfl | rfl | rfl | rfl | rfl | rfl <;> exact ren_b rfl rfl hlow hfit (low_bx n') (by kernel_rfl)
 have hb : backS (qA p) (slW sa so (tV 19 tl) ak i [(s15, .ptr 21 0), (s16, .int .u64 (((ak + 1 : Nat)) : Int)), (s17, .int .i64 0)]) = slW sa so (tV 19 tl) ak i [(s15, .ptr 21 0), (s16, .int .u64 (((ak + 1 : Nat)) : Int)), (s17, .int .i64 0)] := by
  have ht : (tV 19 tl).back (qA p) = tV 19 tl := by
   have hp : p < 8 := hp
   unfold tV
   rcases k8 hp with rfl | rfl | rfl | rfl | rfl | rfl | rfl | rfl <;> (split <;> rfl)
  have hp : p < 8 := hp
  have e1 : sa.back (qA p) = sa := va _ (by rcases k8 hp with rfl | rfl | rfl | rfl | rfl | rfl | rfl | rfl <;> rfl)
  have e2 : so.back (qA p) = so := vo _ (by rcases k8 hp with rfl | rfl | rfl | rfl | rfl | rfl | rfl | rfl <;> rfl)
  show (s1, sa.back (qA p)) :: (s2, so.back (qA p)) :: (s7, (V.ptr 2 0).back (qA p)) :: (s8, (V.ptr 12 0).back (qA p)) :: (s10, (V.map 17).back (qA p)) :: (s11, (V.map 18).back (qA p)) :: (s12, (tV 19 tl).back (qA p)) :: _ = _
  rw [e1, e2, ht]
  rcases k8 hp with rfl | rfl | rfl | rfl | rfl | rfl | rfl | rfl <;> rfl
 refine renN hren hT1 fun T2 hT2 => hc T2 ?_
 rw [hb] at hT2
 exact hT2
end
end Go.Proofs.YtjekgdkaejgpdaaGreat
