/- Feed as a contract. No condition. -/
import Derived.Test.YtblblhfgpcgheaaFJ
namespace Go.Proofs.Ytblblhfgpcgheaa
open Go Go.AM
set_option maxRecDepth 100000
set_option maxHeartbeats 4000000
set_option linter.unusedVariables false
set_option linter.unusedSectionVars false
inductive Out (f : Fl) (r : Reps) (k : Nat) : Stp → Prop
 | bad : Out f r k (badS r)
 | need : Out f r k (needS f r)
 | put {a a2 : Fly} {n : Nat} (hg : getF k f = some a) (h : FlyOk a → FlyOk a2) (h0 : 0 < n) : Out f r k ⟨n, false, putF k a2 f, r⟩
 | dn {a : Fly} {n e : Nat} {d : List Nat} (hg : getF k f = some a) (h0 : 0 < n) : Out f r k ⟨n, false, delF k f, r ++ [(e, k, d)]⟩
theorem fly_step {kd : Nat} {a : Fly} {x : List Nat} (hx : ∀ b ∈ x, b < 256) (h : ¬ (kd = 1 ∧ ¬ moreB a x)) (ha : FlyOk a) : FlyOk (setE kd (addD kd a x) x) := by
 have h1 : FlyOk (addD kd a x) := by
  unfold addD
  split
  ·rename_i e
   have hm : moreB a x := Classical.not_not.1 fun g => h ⟨e, g⟩
   obtain ⟨h8, _, _, h3⟩ := hm
   have := ha.dat
   exact ⟨ha.kind, ha.len, ha.off, ha.err, by show (a.data ++ x.drop 8).length ≤ a.len; rw [List.length_append, List.length_drop]; omega⟩
  ·exact ha
 unfold setE
 split
 ·refine ⟨h1.kind, h1.len, h1.off, ?_, h1.dat⟩
  show (if 4 ≤ x.length then bat x 0 4 else 5) < 4294967296
  split
  ·exact bat_lt hx 0 4
  ·decide
 ·exact h1
theorem ans_out {s : List Nat} (hs : ∀ b ∈ s, b < 256) (f : Fl) (r : Reps) : Out f r (bat s 8 8) (ansS 1032 s f r) := by
 unfold ansS
 split
 ·exact .need
 split
 ·split
  ·exact .need
  split
  ·exact .bad
  split
  ·exact .need
  unfold chunkS
  cases hg : getF (bat s 8 8) f with
  | none => exact .bad
  | some a =>
   simp only
   have hx : ∀ b ∈ (s.drop 20).take (bat s 16 4), b < 256 := fun b hb => hs b (List.drop_subset _ _ (List.take_subset _ _ hb))
   generalize (s.drop 20).take (bat s 16 4) = x at hx
   split
   ·exact .bad
   ·rename_i hm
    unfold lastS
    split
    ·split
     ·exact .bad
     ·unfold dnS
      rw [del_put]
      exact .dn hg (by omega)
    ·exact .put hg (fun ha => fly_step hx (by intro h; exact hm ⟨h.1, h.2⟩) ha) (by omega)
 split
 ·split
  ·exact .need
  cases hg : getF (bat s 8 8) f with
  | none => exact .bad
  | some a =>
   simp only
   split
   ·split
    ·exact .need
    ·exact .dn hg (by omega)
   ·exact .dn hg (by omega)
 ·exact .bad
structure FlS (q : Nat) (fl : Fl) : Prop where
 nd : (fl.map Prod.fst).Nodup
 key : ∀ x ∈ fl, 1 ≤ x.1 ∧ x.1 ≤ q
 fly : ∀ x ∈ fl, FlyOk x.2
theorem put_keys {k : Nat} {a : Fly} : ∀ {fl : Fl}, (putF k a fl).map Prod.fst = fl.map Prod.fst
 | [] => rfl
 | (j, c) :: l => by
  unfold putF
  split
  ·rfl
  ·simp only [List.map_cons, put_keys (fl := l)]
theorem put_mem {k : Nat} {a : Fly} : ∀ {fl : Fl} {x : Nat × Fly}, x ∈ putF k a fl → x ∈ fl ∨ (x.2 = a ∧ x.1 = k ∧ ∃ b, (k, b) ∈ fl)
 | (j, c) :: l, x, h => by
  unfold putF at h
  split at h
  ·rename_i e
   subst e
   rcases List.mem_cons.1 h with rfl | h
   ·exact .inr ⟨rfl, rfl, c, List.mem_cons_self ..⟩
   ·exact .inl (List.mem_cons_of_mem _ h)
  ·rcases List.mem_cons.1 h with rfl | h
   ·exact .inl (List.mem_cons_self ..)
   ·rcases put_mem h with h | ⟨h1, h2, b, h3⟩
    ·exact .inl (List.mem_cons_of_mem _ h)
    ·exact .inr ⟨h1, h2, b, List.mem_cons_of_mem _ h3⟩
theorem del_sub {k : Nat} : ∀ {fl : Fl}, (delF k fl).Sublist fl
 | [] => .slnil
 | (j, c) :: l => by
  unfold delF
  split
  ·exact .cons _ (List.Sublist.refl _)
  ·exact .cons_cons _ del_sub
theorem del_len {k : Nat} {a : Fly} : ∀ {fl : Fl}, getF k fl = some a → (delF k fl).length + 1 = fl.length
 | (j, c) :: l, h => by
  unfold getF at h
  unfold delF
  split at h
  ·rename_i e; rw [if_pos e]; rfl
  ·rename_i e; rw [if_neg e, List.length_cons, del_len h]; rfl
theorem put_len {k : Nat} {a : Fly} {fl : Fl} : (putF k a fl).length = fl.length := by
 have := congrArg List.length (put_keys (k := k) (a := a) (fl := fl))
 simpa using this
theorem getF_notin {k : Nat} : ∀ {fl : Fl}, k ∉ fl.map Prod.fst → getF k fl = none
 | [], _ => rfl
 | (j, c) :: l, h => by
  unfold getF
  rw [if_neg fun e => h (by rw [e]; exact List.mem_cons_self ..)]
  exact getF_notin fun hh => h (List.mem_cons_of_mem _ hh)
theorem getF_del {k : Nat} : ∀ {fl : Fl}, (fl.map Prod.fst).Nodup → getF k (delF k fl) = none
 | [], _ => rfl
 | (j, c) :: l, h => by
  have h := List.nodup_cons.1 h
  unfold delF
  split
  ·rename_i e; subst e; exact getF_notin h.1
  ·rename_i e; unfold getF; rw [if_neg e]; exact getF_del h.2
theorem getF_del_ne {k j : Nat} (hj : j ≠ k) : ∀ {fl : Fl}, getF j (delF k fl) = getF j fl
 | [] => rfl
 | (i, c) :: l => by
  unfold delF
  split
  ·rename_i e; subst e; rw [show getF j ((k, c) :: l) = getF j l from if_neg hj]
  ·unfold getF; rw [getF_del_ne hj]
theorem getF_put_ne {k j : Nat} {a : Fly} (hj : j ≠ k) : ∀ {fl : Fl}, getF j (putF k a fl) = getF j fl
 | [] => rfl
 | (i, c) :: l => by
  unfold putF
  split
  ·rename_i e; subst e; rw [show getF j ((k, c) :: l) = getF j l from if_neg hj, show getF j ((k, a) :: l) = getF j l from if_neg hj]
  ·unfold getF; rw [getF_put_ne hj]
theorem FlS.put {q k : Nat} {a a2 : Fly} {fl : Fl} (h : FlS q fl) (hg : getF k fl = some a) (ha : FlyOk a → FlyOk a2) : FlS q (putF k a2 fl) := by
 refine ⟨by rw [put_keys]; exact h.nd, fun x hx => ?_, fun x hx => ?_⟩
 ·rcases put_mem hx with hx | ⟨_, h2, b, h3⟩
  ·exact h.key x hx
  ·rw [h2]; exact h.key _ h3
 ·rcases put_mem hx with hx | ⟨h1, _, _, _⟩
  ·exact h.fly x hx
  ·rw [h1]; exact ha (h.fly _ (getF_mem hg))
theorem FlS.del {q k : Nat} {fl : Fl} (h : FlS q fl) : FlS q (delF k fl) :=
 ⟨List.Nodup.sublist (del_sub.map _) h.nd, fun x hx => h.key x (delF_sub hx), fun x hx => h.fly x (delF_sub hx)⟩
theorem FlS.nil {q : Nat} : FlS q [] := ⟨List.nodup_nil, (fun _ h => nomatch h), (fun _ h => nomatch h)⟩
theorem FlS.zero {q : Nat} {fl : Fl} (h : FlS q fl) : getF 0 fl = none := by
 cases hg : getF 0 fl with
 | none => rfl
 | some a =>
  have h1 : 1 ≤ 0 := (h.key _ (getF_mem hg)).1
  omega
structure CstOk (q : Nat) (c : Cst) : Prop where
 fl : FlS q c.fl
 byt : ∀ b ∈ c.inb, b < 256
 cnt : c.rep.length + c.fl.length ≤ 8
 ov : c.over = true → c.fl = []
def stepC (c : Cst) : Cst := ⟨(ansS 1032 c.inb c.fl c.rep).over, c.inb.drop (ansS 1032 c.inb c.fl c.rep).n, (ansS 1032 c.inb c.fl c.rep).fl, (ansS 1032 c.inb c.fl c.rep).rep⟩
def stepN (c : Cst) : Nat := (ansS 1032 c.inb c.fl c.rep).n
theorem stepC_ok {q : Nat} {c : Cst} (h : CstOk q c) : CstOk q (stepC c) := by
 have ho := ans_out h.byt c.fl c.rep
 have hd : ∀ n, ∀ b ∈ c.inb.drop n, b < 256 := fun n b hb => h.byt b (List.drop_subset _ _ hb)
 have hc := h.cnt
 unfold stepC
 generalize ansS 1032 c.inb c.fl c.rep = x at ho ⊢
 cases ho with
 | bad => exact ⟨FlS.nil, hd _, by show c.rep.length + 0 ≤ 8; omega, fun _ => rfl⟩
 | need => exact ⟨h.fl, hd _, hc, fun h => by cases h⟩
 | put hg ha h0 => exact ⟨h.fl.put hg ha, hd _, by show c.rep.length + (putF _ _ c.fl).length ≤ 8; rw [put_len]; exact hc, fun h => by cases h⟩
 | dn hg h0 =>
  have := del_len hg
  exact ⟨h.fl.del, hd _, by show (c.rep ++ [_]).length + (delF _ c.fl).length ≤ 8; rw [List.length_append]; simp only [List.length_singleton]; omega, fun h => by cases h⟩
def seqC (c : Cst) : Nat → Cst × Nat
 | 0 => (c, 1)
 | i + 1 => (stepC (seqC c i).1, stepN (seqC c i).1)
theorem seqC_succ (c : Cst) : ∀ i, (seqC c (i + 1)) = ((seqC (stepC c) i).1, if i = 0 then stepN c else (seqC (stepC c) i).2)
 | 0 => rfl
 | i + 1 => by
  show (stepC (seqC c (i + 1)).1, stepN (seqC c (i + 1)).1) = _
  rw [seqC_succ c i]
  rfl
theorem run_seq : ∀ (k : Nat) (c : Cst), c.over = false → c.inb.length < k → ∃ N, N ≤ k ∧ 0 < N ∧ (∀ i, i < N → (seqC c i).1.over = false ∧ 1 ≤ (seqC c i).2) ∧ (seqC c N).2 = 0 ∧ (seqC c N).1 = runC 1032 k c
 | 0, _, _, h => absurd h (Nat.not_lt_zero _)
 | k + 1, c, ho, hk => by
  rw [run_step ho]
  have hn := ans_n 1032 c.inb c.fl c.rep
  have hout : (ansS 1032 c.inb c.fl c.rep).over = true → (ansS 1032 c.inb c.fl c.rep).n = 0 := by
   rcases ans_ext 1032 c.inb [] c.fl c.rep with h | ⟨_, h | ⟨_, _, h⟩⟩
   ·rw [h]; intro _; rfl
   ·rw [h]; intro _; rfl
   ·intro h2; rw [h] at h2; cases h2
  by_cases h0 : (ansS 1032 c.inb c.fl c.rep).n = 0
  ·rw [if_pos h0]
   refine ⟨1, by omega, by decide, fun i hi => ?_, h0, ?_⟩
   ·have : i = 0 := by omega
    subst this
    exact ⟨ho, Nat.le_refl 1⟩
   ·show stepC c = _
    unfold stepC
    rw [h0]; rfl
  ·rw [if_neg h0]
   have ho2 : (stepC c).over = false := by
    cases e : (ansS 1032 c.inb c.fl c.rep).over with
    | true => exact absurd (hout e) h0
    | false => exact e
   obtain ⟨N, g1, g2, g3, g4, g5⟩ := run_seq k (stepC c) ho2 (by show (c.inb.drop _).length < k; rw [List.length_drop]; omega)
   refine ⟨N + 1, by omega, by omega, fun i hi => ?_, ?_, ?_⟩
   ·cases i with
    | zero => exact ⟨ho, Nat.le_refl 1⟩
    | succ i =>
     rw [seqC_succ]
     have g := g3 i (by omega)
     refine ⟨g.1, ?_⟩
     show 1 ≤ (if i = 0 then stepN c else (seqC (stepC c) i).2)
     split
     ·show 1 ≤ (ansS 1032 c.inb c.fl c.rep).n; omega
     ·exact g.2
   ·rw [seqC_succ]
    show (if N = 0 then _ else _) = 0
    rw [if_neg (by omega)]; exact g4
   ·rw [seqC_succ]; exact g5
theorem seqC_ok {q : Nat} {c : Cst} (h : CstOk q c) : ∀ i, CstOk q (seqC c i).1
 | 0 => h
 | i + 1 => stepC_ok (seqC_ok h i)
mutual
theorem V.bel_up {q : Nat → Bool} : ∀ v : V, v.bel (fun _ => false) = true → v.bel q = true
 | .ptr _ _, h => by cases h
 | .slice _ _ _ _ _, h => by cases h
 | .map _, h => by cases h
 | .yield _, h => by cases h
 | .func _ a b, h => by
  simp only [V.bel, Bool.and_eq_true] at h ⊢
  exact ⟨bels_up a h.1, bels_up b h.2⟩
 | .iface _ v, h => V.bel_up v h
 | .agg l, h => bels_up l h
 | .tuple l, h => bels_up l h
 | .bool _, _ | .int _ _, _ | .str _, _ | .nilptr, _ | .nilslice, _ | .nilmap, _ | .nilfunc, _ | .niliface, _ | .any, _ => rfl
theorem bels_up {q : Nat → Bool} : ∀ l : List V, bels (fun _ => false) l = true → bels q l = true
 | [], _ => rfl
 | v :: l, h => by
  simp only [bels, Bool.and_eq_true] at h ⊢
  exact ⟨V.bel_up v h.1, bels_up l h.2⟩
end
theorem ebels_up {q : Nat → Bool} : ∀ l : List (V × V × Nat), ebels (fun _ => false) l = true → ebels q l = true
 | [], _ => rfl
 | (k, v, n) :: l, h => by
  simp only [ebels, Bool.and_eq_true] at h ⊢
  exact ⟨⟨V.bel_up k h.1.1, V.bel_up v h.1.2⟩, ebels_up l h.2⟩
theorem AObj.bel_up {q : Nat → Bool} : ∀ {o : AObj}, o.bel (fun _ => false) = true → o.bel q = true
 | .cells cs _, h => bels_up cs h
 | .map es _ _, h => ebels_up es h
 | .dead, _ => rfl
 | .iter _ _ _ _, h => by cases h
 | .loop _ _, h => by cases h
abbrev pF : Nat → Nat := fun j => 2 + j
def nmL (k R : Nat) : List Nat := 0 :: 1 :: (2 + k) :: ((List.range 12).filter fun j => Nat.blt 1 j && !Nat.beq j (2 + k) && !Nat.beq j R) ++ [R]
abbrev pK (k R : Nat) : Nat → Nat := fun j => idxL (2 + j) (nmL k R)
theorem k8 {k : Nat} (h : 1 ≤ k ∧ k ≤ 8) : k = 1 ∨ k = 2 ∨ k = 3 ∨ k = 4 ∨ k = 5 ∨ k = 6 ∨ k = 7 ∨ k = 8 := by omega
theorem nm_ok {k R : Nat} (hk : 1 ≤ k ∧ k ≤ 8) (hR : R = 2 ∨ R = 11) : (nodupL (nmL k R) && Nat.beq (nmL k R).length 12) = true ∧ nthD (nmL k R) 0 = 0 ∧ nthD (nmL k R) 1 = 1 ∧ nthD (nmL k R) 2 = 2 + k ∧ nthD (nmL k R) 11 = R ∧ pK k R k = 2 ∧ ∀ j, 1 ≤ j ∧ j ≤ 8 → nthD (nmL k R) (pK k R j) = 2 + j ∧ pK k R j < 12 := by
 rcases k8 hk with rfl | rfl | rfl | rfl | rfl | rfl | rfl | rfl <;> rcases hR with rfl | rfl <;> refine ⟨rfl, rfl, rfl, rfl, rfl, rfl, fun j hj => ?_⟩ <;> rcases k8 hj with rfl | rfl | rfl | rfl | rfl | rfl | rfl | rfl <;> exact ⟨rfl, by decide⟩
abbrev m12 (C F x2 : AObj) (a : Nat → AObj) (x11 : AObj) : Mem := memL 12 [(0, C), (1, F), (2, x2), (3, a 1), (4, a 2), (5, a 3), (6, a 4), (7, a 5), (8, a 6), (9, a 7), (10, a 8), (11, x11)]
abbrev m13 (C F x2 : AObj) (a : Nat → AObj) (x11 N : AObj) : Mem := memL 13 [(0, C), (1, F), (2, x2), (3, a 1), (4, a 2), (5, a 3), (6, a 4), (7, a 5), (8, a 6), (9, a 7), (10, a 8), (11, x11), (12, N)]
theorem get12 {k : Nat} (hk : 1 ≤ k ∧ k ≤ 8) (C F x2 : AObj) (a : Nat → AObj) (x11 : AObj) : (m12 C F x2 a x11).get (2 + k) = some (a k) := by
 rcases k8 hk with rfl | rfl | rfl | rfl | rfl | rfl | rfl | rfl <;> rfl
theorem get12r {R : Nat} (hR : R = 2 ∨ R = 11) (C F x2 : AObj) (a : Nat → AObj) (x11 : AObj) : (m12 C F x2 a x11).get R = some (if R = 2 then x2 else x11) := by
 rcases hR with rfl | rfl <;> rfl
abbrev updA (k : Nat) (a : Nat → AObj) (b : Bool) (o : AObj) : Nat → AObj := fun j => if j = k then (bif b then o else a j) else a j
theorem m12_0 (C F x2 x11 o : AObj) (a : Nat → AObj) : (m12 C F x2 a x11).set 0 o = m12 o F x2 a x11 := rfl
theorem m12_1 (C F x2 x11 o : AObj) (a : Nat → AObj) : (m12 C F x2 a x11).set 1 o = m12 C o x2 a x11 := rfl
theorem m12_k {k : Nat} (hk : 1 ≤ k ∧ k ≤ 8) (C F x2 x11 o : AObj) (a : Nat → AObj) : (m12 C F x2 a x11).set (2 + k) o = m12 C F x2 (updA k a true o) x11 := by
 rcases k8 hk with rfl | rfl | rfl | rfl | rfl | rfl | rfl | rfl <;> rfl
theorem m12_R {R : Nat} (hR : R = 2 ∨ R = 11) (C F x2 x11 o : AObj) (a : Nat → AObj) : (m12 C F x2 a x11).set R o = m12 C F (if R = 2 then o else x2) a (if R = 11 then o else x11) := by
 rcases hR with rfl | rfl <;> rfl
theorem updA_f (k : Nat) (a : Nat → AObj) (o : AObj) : updA k a false o = a := by
 funext j
 show (if j = k then a j else a j) = a j
 split <;> rfl
theorem set24 {k R : Nat} (hk : 1 ≤ k ∧ k ≤ 8) (hR : R = 2 ∨ R = 11) (τ : Nat → Nat) (cc : List V) (ee : List (V × V × Nat)) (n : Nat) (A Rr C0 F0 C1 F1 A1 R1 X2 X11 : AObj) (a : Nat → AObj) (hA : A = .dead ∨ ∃ c, A = .cells c false) (hRr : Rr = .dead ∨ ∃ c, Rr = .cells c false) :
  setG (nthD (nmL k R)) τ 0 (prA (.cells cc false) (.map ee n false) A Rr) (prA C1 F1 A1 R1) (m12 C0 F0 X2 a X11) = m12 (C1.ren τ) (F1.ren τ) (if R = 2 then (bif Rr.live then R1.ren τ else X2) else X2) (updA k a A.live (A1.ren τ)) (if R = 11 then (bif Rr.live then R1.ren τ else X11) else X11) := by
 obtain ⟨_, e0, e1, e2, e11, _⟩ := nm_ok hk hR
 have hs : setG (nthD (nmL k R)) τ 0 (prA (.cells cc false) (.map ee n false) A Rr) (prA C1 F1 A1 R1) (m12 C0 F0 X2 a X11) = (bif Rr.live then (bif A.live then (((m12 C0 F0 X2 a X11).set (nthD (nmL k R) 0) (C1.ren τ)).set (nthD (nmL k R) 1) (F1.ren τ)).set (nthD (nmL k R) 2) (A1.ren τ) else (((m12 C0 F0 X2 a X11).set (nthD (nmL k R) 0) (C1.ren τ)).set (nthD (nmL k R) 1) (F1.ren τ))).set (nthD (nmL k R) 11) (R1.ren τ) else (bif A.live then (((m12 C0 F0 X2 a X11).set (nthD (nmL k R) 0) (C1.ren τ)).set (nthD (nmL k R) 1) (F1.ren τ)).set (nthD (nmL k R) 2) (A1.ren τ) else (((m12 C0 F0 X2 a X11).set (nthD (nmL k R) 0) (C1.ren τ)).set (nthD (nmL k R) 1) (F1.ren τ)))) := rfl
 rw [hs, e0, e1, e2, e11, m12_0, m12_1, m12_k hk]
 rcases hA with rfl | ⟨c, rfl⟩ <;> rcases hRr with rfl | ⟨d, rfl⟩
 ·show m12 _ _ _ _ _ = m12 _ _ (if R = 2 then X2 else X2) (updA k a false _) (if R = 11 then X11 else X11)
  rw [updA_f, ite_self, ite_self]
 ·show (m12 _ _ _ _ _).set R _ = m12 _ _ _ (updA k a false _) _
  rw [m12_R hR, updA_f]; rfl
 ·show m12 _ _ _ _ _ = m12 _ _ (if R = 2 then X2 else X2) _ (if R = 11 then X11 else X11)
  rw [ite_self, ite_self]; rfl
 ·show (m12 _ _ _ _ _).set R _ = _
  rw [m12_R hR]; rfl
abbrev rvR (R : Nat) (r : Reps) : V := if r = [] then .nilslice else .slice R 0 r.length r.length 3
abbrev x2R (R : Nat) (r : Reps) : AObj := if R = 2 then rC r else .dead
abbrev x11R (R : Nat) (r : Reps) : AObj := if R = 11 then rC r else .dead
abbrev aF (W : Cli) (fl : Fl) : Nat → AObj := fun j => aoO W j (getF j fl)
theorem aoO_or (W : Cli) (k : Nat) (o : Option Fly) : aoO W k o = .dead ∨ ∃ c, aoO W k o = .cells c false := by
 cases o
 ·exact .inl rfl
 ·exact .inr ⟨_, rfl⟩
theorem rvC_renR {σ : Nat → Nat} {R : Nat} (h : σ 11 = R) (r : Reps) : (rvC r).ren σ = rvR R r := by
 show (if r = [] then V.nilslice else _).ren σ = (if r = [] then V.nilslice else _)
 split
 ·rfl
 ·show V.slice (σ 11) _ _ _ _ = _
  rw [h]
section
variable {P : Program} {W : Cli} {inb : List Nat} {fl : Fl} {r : Reps} {k R : Nat}
theorem memG24 (hk : 1 ≤ k ∧ k ≤ 8) (hR : R = 2 ∨ R = 11) {C : Con} {cc : List V} {ee : List (V × V × Nat)} {n : Nat} {A Rr C0 F0 C1 F1 A1 R1 X2 X11 : AObj} {a : Nat → AObj} {nw : List (Nat × AObj)} (hpre : C.pre = prA (.cells cc false) (.map ee n false) A Rr) (hold : C.old = prA C1 F1 A1 R1) (hnew : C.new = nw) (hA : A = .dead ∨ ∃ c, A = .cells c false) (hRr : Rr = .dead ∨ ∃ c, Rr = .cells c false) :
  C.memG (nthD (nmL k R)) (m12 C0 F0 X2 a X11) = newAll (C.tau (nthD (nmL k R)) 12) nw (m12 (C1.ren (C.tau (nthD (nmL k R)) 12)) (F1.ren (C.tau (nthD (nmL k R)) 12)) (if R = 2 then (bif Rr.live then R1.ren (C.tau (nthD (nmL k R)) 12) else X2) else X2) (updA k a A.live (A1.ren (C.tau (nthD (nmL k R)) 12))) (if R = 11 then (bif Rr.live then R1.ren (C.tau (nthD (nmL k R)) 12) else X11) else X11)) := by
 unfold Con.memG
 rw [hpre, hold, hnew]
 exact congrArg _ (set24 hk hR _ _ _ _ _ _ _ _ _ _ _ _ _ _ _ hA hRr)
theorem tau24 {C : Con} (hp : C.pre.length = 12) {c : Nat} (hc : c < 12) : C.tau (nthD (nmL k R)) 12 c = nthD (nmL k R) c := by
 show (bif Nat.blt c C.pre.length then nthD (nmL k R) c else _) = _
 rw [hp, nblt_iff.2 hc, cond_true]
variable {kk : Nat} (hk : 1 ≤ k ∧ k ≤ 8) (hR : R = 2 ∨ R = 11) (hfl : ∀ x ∈ fl, 1 ≤ x.1 ∧ x.1 ≤ 8) (hkk : kk = k ∨ getF kk fl = none)
include hk hR hfl hkk
theorem pre24 : preOkG (nthD (nmL k R)) (m12 (.cells (clV W false inb (rvR R r)) false) (.map (enF pF fl) W.q false) (x2R R r) (aF W fl) (x11R R r)) 0
  (prA (.cells (clV W false inb (rvC r)) false) (.map (enF (pK k R) fl) W.q false) (aoO W kk (getF kk fl)) (rC r)) := by
 obtain ⟨_, e0, e1, e2, e11, _, ej⟩ := nm_ok hk hR
 refine ⟨.inr ?_, .inr ?_, ?_, .inl rfl, .inl rfl, .inl rfl, .inl rfl, .inl rfl, .inl rfl, .inl rfl, .inl rfl, .inr ?_, trivial⟩
 ·rw [clV_ren W _ _ e1 (rvC_renR e11 r), e0]; rfl
 ·rw [e1]
  show some (AObj.map (enF pF fl) W.q false) = some ((AObj.map (enF (pK k R) fl) W.q false).ren _)
  congr 1
  show _ = AObj.map (erens _ (enF (pK k R) fl)) _ _
  rw [enF_ren, enF_congr (p := fun j => nthD (nmL k R) (pK k R j)) (p' := pF) fun x hx => (ej x.1 (hfl x hx)).1]
 ·rcases hkk with rfl | hg
  ·refine .inr ?_
   rw [aoO_ren, show (0 : Nat) + 1 + 1 = 2 from rfl, e2]; exact get12 hk _ _ _ _ _
  ·rw [hg]; exact .inl rfl
 ·rw [rC_ren]
  show (m12 _ _ _ _ _).get (nthD (nmL k R) 11) = _
  rw [e11, get12r hR]
  rcases hR with rfl | rfl <;> rfl
abbrev hd12 (W : Cli) (R : Nat) (inb : List Nat) (fl : Fl) (r : Reps) : Mem := m12 (.cells (clV W false inb (rvR R r)) false) (.map (enF pF fl) W.q false) (x2R R r) (aF W fl) (x11R R r)
theorem call24s {n : Nat} {ov : Bool} {fl' : Fl} (hfl' : ∀ x ∈ fl', 1 ≤ x.1 ∧ x.1 ≤ 8) {Ao : AObj} (hB : Ao.bel (fun _ => false) = true)
  (h : ConOk P 24 (cAns W inb fl (pK k R) r (aoO W kk (getF kk fl)) n (prA (.cells (clV W ov inb (rvC r)) false) (.map (enF (pK k R) fl') W.q false) Ao (rC r)) [])) :
  ∃ τ, CalOk (lastG 24 (ConOk P 24) la0) (.func (.func 24) [] []) [.ptr 0 0] (hd12 W R inb fl r) (.int .i64 ((n : Nat) : Int))
   (m12 (.cells (clV W ov inb (rvR R r)) false) (.map (enF pF fl') W.q false) (x2R R r) (updA k (aF W fl) (aoO W kk (getF kk fl)).live (Ao.ren τ)) (x11R R r)) := by
 obtain ⟨e, e0, e1, e2, e11, ek, ej⟩ := nm_ok hk hR
 have hpre := pre24 (W := W) (inb := inb) (r := r) hk hR hfl hkk
 have hM := memG24 hk hR (C := cAns W inb fl (pK k R) r (aoO W kk (getF kk fl)) n (prA (.cells (clV W ov inb (rvC r)) false) (.map (enF (pK k R) fl') W.q false) Ao (rC r)) []) (C0 := .cells (clV W false inb (rvR R r)) false) (F0 := .map (enF pF fl) W.q false) (X2 := x2R R r) (X11 := x11R R r) (a := aF W fl) rfl rfl rfl (aoO_or W kk _) (rC_or r)
 have t0 := fun c hc => tau24 (k := k) (R := R) (C := cAns W inb fl (pK k R) r (aoO W kk (getF kk fl)) n (prA (.cells (clV W ov inb (rvC r)) false) (.map (enF (pK k R) fl') W.q false) Ao (rC r)) []) rfl (c := c) hc
 have p0 : ∀ c, c < 12 → (cAns W inb fl (pK k R) r (aoO W kk (getF kk fl)) n (prA (.cells (clV W ov inb (rvC r)) false) (.map (enF (pK k R) fl') W.q false) Ao (rC r)) []).p0 c = true := fun c hc => nblt_iff.2 hc
 have p1 : ∀ c, c < 12 → (cAns W inb fl (pK k R) r (aoO W kk (getF kk fl)) n (prA (.cells (clV W ov inb (rvC r)) false) (.map (enF (pK k R) fl') W.q false) Ao (rC r)) []).p1 c = true := fun c hc => by
  show (Nat.blt c 12 || _) = true
  rw [nblt_iff.2 hc]; rfl
 refine ⟨(cAns W inb fl (pK k R) r (aoO W kk (getF kk fl)) n (prA (.cells (clV W ov inb (rvC r)) false) (.map (enF (pK k R) fl') W.q false) Ao (rC r)) []).tau (nthD (nmL k R)) 12, cal_G (l := nmL k R) h ?_ e ?_ hpre rfl (hM.trans ?_)⟩
 ·unfold Con.wfG
  refine andT (andT (andT (andT (andT (andT rfl ?_) rfl) ?_) rfl) rfl) rfl
  ·show ((AObj.cells _ false).bel _ && (ebels _ (enF _ fl) && ((aoO _ _ _).bel _ && ((rC r).bel _ && true)))) = true
   rw [clV_bel W _ _ (p0 1 (by decide)) (rvC_bel (p0 11 (by decide)) r), enF_bel fun x hx => p0 _ (ej _ (hfl x hx)).2, aoO_bel, rC_bel]; rfl
  ·show ((AObj.cells _ false).bel _ && (ebels _ (enF _ fl') && (Ao.bel _ && ((rC r).bel _ && true)))) = true
   rw [clV_bel W _ _ (p1 1 (by decide)) (rvC_bel (p1 11 (by decide)) r), enF_bel fun x hx => p1 _ (ej _ (hfl' x hx)).2, AObj.bel_up hB, rC_bel]; rfl
 ·show [V.ptr 0 0] = [V.ptr (nthD (nmL k R) 0) 0]
  rw [e0]
 ·generalize (cAns W inb fl (pK k R) r (aoO W kk (getF kk fl)) n (prA (.cells (clV W ov inb (rvC r)) false) (.map (enF (pK k R) fl') W.q false) Ao (rC r)) []).tau (nthD (nmL k R)) 12 = τ at t0 ⊢
  have em : (AObj.map (enF (pK k R) fl') W.q false).ren τ = .map (enF pF fl') W.q false := by
   show AObj.map (erens _ (enF (pK k R) fl')) _ _ = _
   rw [enF_ren, enF_congr (p := fun j => τ (pK k R j)) (p' := pF) fun x hx => (t0 _ (ej x.1 (hfl' x hx)).2).trans (ej x.1 (hfl' x hx)).1]
  rw [clV_ren W _ _ ((t0 1 (by decide)).trans e1) (rvC_renR ((t0 11 (by decide)).trans e11) r), rC_ren, em]
  rcases hR with rfl | rfl <;> rcases rC_or r with h | ⟨c, h⟩ <;> (simp only [x2R, x11R, h]; rfl)
theorem call24n {n : Nat} {fl' : Fl} {r' : Reps} (hfl' : ∀ x ∈ fl', 1 ≤ x.1 ∧ x.1 ≤ 8) {Ao : AObj} (hB : Ao.bel (fun _ => false) = true)
  (h : ConOk P 24 (cAns W inb fl (pK k R) r (aoO W kk (getF kk fl)) n (prA (.cells (clV W false inb (rv13 r)) false) (.map (enF (pK k R) fl') W.q false) Ao .dead) [(13, .cells (repV r') false)])) :
  ∃ τ, CalOk (lastG 24 (ConOk P 24) la0) (.func (.func 24) [] []) [.ptr 0 0] (hd12 W R inb fl r) (.int .i64 ((n : Nat) : Int))
   (m13 (.cells (clV W false inb (.slice 12 0 (r.length + 1) (r.length + 1) 3)) false) (.map (enF pF fl') W.q false) .dead (updA k (aF W fl) (aoO W kk (getF kk fl)).live (Ao.ren τ)) .dead (.cells (repV r') false)) := by
 obtain ⟨e, e0, e1, e2, e11, ek, ej⟩ := nm_ok hk hR
 have hpre := pre24 (W := W) (inb := inb) (r := r) hk hR hfl hkk
 have hM := memG24 hk hR (C := cAns W inb fl (pK k R) r (aoO W kk (getF kk fl)) n (prA (.cells (clV W false inb (rv13 r)) false) (.map (enF (pK k R) fl') W.q false) Ao .dead) [(13, .cells (repV r') false)]) (C0 := .cells (clV W false inb (rvR R r)) false) (F0 := .map (enF pF fl) W.q false) (X2 := x2R R r) (X11 := x11R R r) (a := aF W fl) rfl rfl rfl (aoO_or W kk _) (rC_or r)
 have t0 := fun c hc => tau24 (k := k) (R := R) (C := cAns W inb fl (pK k R) r (aoO W kk (getF kk fl)) n (prA (.cells (clV W false inb (rv13 r)) false) (.map (enF (pK k R) fl') W.q false) Ao .dead) [(13, .cells (repV r') false)]) rfl (c := c) hc
 have t13 : (cAns W inb fl (pK k R) r (aoO W kk (getF kk fl)) n (prA (.cells (clV W false inb (rv13 r)) false) (.map (enF (pK k R) fl') W.q false) Ao .dead) [(13, .cells (repV r') false)]).tau (nthD (nmL k R)) 12 13 = 12 := rfl
 have p0 : ∀ c, c < 12 → (cAns W inb fl (pK k R) r (aoO W kk (getF kk fl)) n (prA (.cells (clV W false inb (rv13 r)) false) (.map (enF (pK k R) fl') W.q false) Ao .dead) [(13, .cells (repV r') false)]).p0 c = true := fun c hc => nblt_iff.2 hc
 have p1 : ∀ c, c < 12 → (cAns W inb fl (pK k R) r (aoO W kk (getF kk fl)) n (prA (.cells (clV W false inb (rv13 r)) false) (.map (enF (pK k R) fl') W.q false) Ao .dead) [(13, .cells (repV r') false)]).p1 c = true := fun c hc => by
  show (Nat.blt c 12 || _) = true
  rw [nblt_iff.2 hc]; rfl
 refine ⟨(cAns W inb fl (pK k R) r (aoO W kk (getF kk fl)) n (prA (.cells (clV W false inb (rv13 r)) false) (.map (enF (pK k R) fl') W.q false) Ao .dead) [(13, .cells (repV r') false)]).tau (nthD (nmL k R)) 12, cal_G (l := nmL k R) h ?_ e ?_ hpre rfl (hM.trans ?_)⟩
 ·unfold Con.wfG
  refine andT (andT (andT (andT (andT (andT rfl ?_) rfl) ?_) ?_) rfl) rfl
  ·show ((AObj.cells _ false).bel _ && (ebels _ (enF _ fl) && ((aoO _ _ _).bel _ && ((rC r).bel _ && true)))) = true
   rw [clV_bel W _ _ (p0 1 (by decide)) (rvC_bel (p0 11 (by decide)) r), enF_bel fun x hx => p0 _ (ej _ (hfl x hx)).2, aoO_bel, rC_bel]; rfl
  ·show ((AObj.cells _ false).bel _ && (ebels _ (enF _ fl') && (Ao.bel _ && true))) = true
   rw [clV_bel W _ _ (p1 1 (by decide)) rfl, enF_bel fun x hx => p1 _ (ej _ (hfl' x hx)).2, AObj.bel_up hB]; rfl
  ·show (bels _ (repV _) && true && true && true) = true
   rw [bels_repV]; rfl
 ·show [V.ptr 0 0] = [V.ptr (nthD (nmL k R) 0) 0]
  rw [e0]
 ·generalize (cAns W inb fl (pK k R) r (aoO W kk (getF kk fl)) n (prA (.cells (clV W false inb (rv13 r)) false) (.map (enF (pK k R) fl') W.q false) Ao .dead) [(13, .cells (repV r') false)]).tau (nthD (nmL k R)) 12 = τ at t0 t13 ⊢
  have em : (AObj.map (enF (pK k R) fl') W.q false).ren τ = .map (enF pF fl') W.q false := by
   show AObj.map (erens _ (enF (pK k R) fl')) _ _ = _
   rw [enF_ren, enF_congr (p := fun j => τ (pK k R j)) (p' := pF) fun x hx => (t0 _ (ej x.1 (hfl' x hx)).2).trans (ej x.1 (hfl' x hx)).1]
  have ec : (AObj.cells (clV W false inb (rv13 r)) false).ren τ = .cells (clV W false inb (.slice 12 0 (r.length + 1) (r.length + 1) 3)) false := clV_ren W _ _ ((t0 1 (by decide)).trans e1) (by show V.slice (τ 13) _ _ _ _ = _; rw [t13])
  have er : (AObj.cells (repV r') false).ren τ = .cells (repV r') false := congrArg (fun c => AObj.cells c false) (rens_repV _ _)
  have ea : ∀ m : Mem, newAll τ [(13, .cells (repV r') false)] m = m.new ((AObj.cells (repV r') false).ren τ) := fun _ => rfl
  rw [ea, er, ec, em]
  rcases hR with rfl | rfl <;> rcases rC_or r with h | ⟨c, h⟩ <;> (simp only [x2R, x11R, h]; rfl)
end
abbrev clS (W : Cli) (R : Nat) (c : Cst) : AObj := .cells (clV W c.over c.inb (rvR R c.rep)) false
abbrev headM (W : Cli) (R : Nat) (c : Cst) : Mem := m12 (clS W R c) (.map (enF pF c.fl) W.q false) (x2R R c.rep) (aF W c.fl) (x11R R c.rep)
abbrev slF (n : Nat) : List (Sl × V) := [(s0, .ptr 0 0), (s4, .int .i64 ((n : Nat) : Int))]
abbrev q13 : List Nat := [0, 1, 2, 3, 4, 5, 6, 7, 8, 9, 10, 12]
theorem slc_drop {s : List Nat} {n : Nat} (h : n ≤ s.length) : slcStrV s n s.length = some (.str (s.drop n)) := by
 have := slc_bat (s := s) (i := n) (k := s.length - n) (by omega)
 rw [show n + (s.length - n) = s.length by omega, List.take_of_length_le (by rw [List.length_drop]; omega)] at this
 exact this
theorem upd_ok {W : Cli} {fl : Fl} {r : Reps} {k kk : Nat} {x : Stp} (hkk : kk = k ∨ getF kk fl = none) (hnd : (fl.map Prod.fst).Nodup) (ho : Out fl r kk x) {Ao : AObj} {τ : Nat → Nat} (hA : x.over = false → x.rep = r → Ao = aoO W kk (getF kk x.fl)) (j : Nat) :
  aF W x.fl j = .dead ∨ updA k (aF W fl) (aoO W kk (getF kk fl)).live (Ao.ren τ) j = aF W x.fl j := by
 cases ho with
 | bad => exact .inl rfl
 | need =>
  refine .inr ?_
  have hA := hA rfl rfl
  subst hA
  show (if j = k then (bif _ then _ else aF W fl j) else aF W fl j) = aF W fl j
  split
  ·rename_i e
   subst e
   rcases hkk with rfl | hg
   ·rw [aoO_ren]
    show (bif _ then aF W fl kk else aF W fl kk) = _
    cases (aoO W kk (getF kk fl)).live <;> rfl
   ·rw [hg]; rfl
  ·rfl
 | put hg h h0 =>
  refine .inr ?_
  have hA := hA rfl rfl
  subst hA
  have e : kk = k := by
   rcases hkk with e | hn
   ·exact e
   ·rw [hg] at hn; cases hn
  subst e
  show (if j = kk then (bif _ then _ else aF W fl j) else aF W fl j) = aF W (putF kk _ fl) j
  split
  ·rename_i e
   subst e
   rw [hg, aoO_ren]; rfl
  ·rename_i e
   show aoO W j (getF j fl) = aoO W j (getF j _)
   rw [getF_put_ne e]
 | dn hg h0 =>
  by_cases e : j = kk
  ·subst e
   refine .inl ?_
   show aoO W j (getF j (delF j fl)) = _
   rw [getF_del hnd]; rfl
  ·refine .inr ?_
   have e2 : kk = k := by
    rcases hkk with e | hn
    ·exact e
    ·rw [hg] at hn; cases hn
   subst e2
   show (if j = kk then _ else aF W fl j) = aoO W j (getF j (delF kk fl))
   rw [if_neg e, getF_del_ne e]
section
variable {P : Program} {W : Cli}
theorem ren_a {W : Cli} {fl : Fl} {j : Nat} {N : Nat} {σ : Nat → Nat} {m : Mem} {b : Nat} {o : AObj} (hg : m.get b = some o) (h : aF W fl j = .dead ∨ o = aF W fl j) : (aF W fl j = .dead ∨ ((aF W fl j).lowIt 11 = true ∧ m.get b = some (aF W fl j)) ∨ m.get b = some ((aF W fl j).ren σ) ∧ (aF W fl j).bel (fun c => Nat.blt c N) = true) := by
 rcases h with h | h
 ·exact .inl h
 ·refine .inr (.inr ⟨?_, aoO_bel _ _ _ _⟩)
  show m.get b = some ((aoO W j (getF j fl)).ren σ)
  rw [hg, h, aoO_ren]
theorem rvR_bel {R : Nat} (h : R < 12) (r : Reps) : (rvR R r).bel (fun c => Nat.blt c 12) = true := by
 show (if r = [] then V.nilslice else _).bel _ = true
 split
 ·rfl
 ·show Nat.blt R 12 = true
  exact nblt_iff.2 h
theorem head_s {R : Nat} (hR : R = 2 ∨ R = 11) {ov : Bool} {inb : List Nat} {fl : Fl} {r : Reps} (hfl : ∀ x ∈ fl, 1 ≤ x.1 ∧ x.1 ≤ 8) {a : Nat → AObj} (ha : ∀ j, aF W fl j = .dead ∨ a j = aF W fl j) :
  RenM 11 id12 (m12 (.cells (clV W ov inb (rvR R r)) false) (.map (enF pF fl) W.q false) (x2R R r) a (x11R R r)) (headM W R ⟨ov, inb, fl, r⟩) := by
 have hR12 : R < 12 := by omega
 have rr : (rvR R r).ren (nthD id12) = rvR R r := by
  show (if r = [] then V.nilslice else _).ren _ = (if r = [] then V.nilslice else _)
  split
  ·rfl
  ·show V.slice (nthD id12 R) _ _ _ _ = _
   rw [id12_lt hR12]
 have rcd : ∀ (b : Nat) (m : Mem) (c : Prop) [Decidable c], m.get b = some (if c then rC r else .dead) → ((if c then rC r else .dead) = AObj.dead ∨ ((if c then rC r else .dead : AObj).lowIt 11 = true ∧ m.get b = some (if c then rC r else .dead)) ∨ m.get b = some ((if c then rC r else .dead : AObj).ren (nthD id12)) ∧ (if c then rC r else .dead : AObj).bel (fun c => Nat.blt c 12) = true) := by
  intro b m c _ h
  by_cases hc : c
  ·rw [if_pos hc] at h ⊢
   exact .inr (.inr ⟨by rw [rC_ren]; exact h, rC_bel _ _⟩)
  ·rw [if_neg hc]; exact .inl rfl
 refine renM_of (objs := [clS W R ⟨ov, inb, fl, r⟩, .map (enF pF fl) W.q false, x2R R r, aF W fl 1, aF W fl 2, aF W fl 3, aF W fl 4, aF W fl 5, aF W fl 6, aF W fl 7, aF W fl 8, x11R R r]) rfl (by decide) rfl ?_
 refine ⟨.inr (.inr ⟨?_, clV_bel W _ _ rfl (rvR_bel hR12 r)⟩), .inr (.inr ⟨?_, enF_bel fun x hx => nblt_iff.2 (by have := hfl x hx; show 2 + x.1 < 12; omega)⟩), rcd 2 _ _ rfl, ren_a rfl (ha 1), ren_a rfl (ha 2), ren_a rfl (ha 3), ren_a rfl (ha 4), ren_a rfl (ha 5), ren_a rfl (ha 6), ren_a rfl (ha 7), ren_a rfl (ha 8), rcd 11 _ _ rfl, trivial⟩
 ·rw [clV_ren W _ _ (id12_lt (by decide)) rr]; rfl
 ·rw [map_ren fun x hx => id12_lt (by have := hfl x hx; show 2 + x.1 < 12; omega)]; rfl
theorem head_n {inb : List Nat} {fl : Fl} {r : Reps} {n : Nat} (hn : r.length = n + 1) (hfl : ∀ x ∈ fl, 1 ≤ x.1 ∧ x.1 ≤ 8) {a : Nat → AObj} (ha : ∀ j, aF W fl j = .dead ∨ a j = aF W fl j) :
  RenM 11 q13 (m13 (.cells (clV W false inb (.slice 12 0 (n + 1) (n + 1) 3)) false) (.map (enF pF fl) W.q false) .dead a .dead (.cells (repV r) false)) (headM W 11 ⟨false, inb, fl, r⟩) := by
 have hr : r ≠ [] := by intro h; rw [h] at hn; simp at hn
 have rr : rvR 11 r = .slice 11 0 (n + 1) (n + 1) 3 := by
  show (if r = [] then V.nilslice else _) = _
  rw [if_neg hr, hn]
 have id10 : ∀ {c : Nat}, c < 11 → nthD q13 c = c
  | 0, _ => rfl | 1, _ => rfl | 2, _ => rfl | 3, _ => rfl | 4, _ => rfl | 5, _ => rfl | 6, _ => rfl | 7, _ => rfl | 8, _ => rfl | 9, _ => rfl | 10, _ => rfl
  | n + 11, h => absurd h (by omega)
 refine renM_of (objs := [clS W 11 ⟨false, inb, fl, r⟩, .map (enF pF fl) W.q false, x2R 11 r, aF W fl 1, aF W fl 2, aF W fl 3, aF W fl 4, aF W fl 5, aF W fl 6, aF W fl 7, aF W fl 8, x11R 11 r]) rfl (by decide) rfl ?_
 refine ⟨.inr (.inr ⟨?_, clV_bel W _ _ rfl (rvR_bel (by decide) r)⟩), .inr (.inr ⟨?_, enF_bel fun x hx => nblt_iff.2 (by have := hfl x hx; show 2 + x.1 < 12; omega)⟩), .inl rfl, ren_a rfl (ha 1), ren_a rfl (ha 2), ren_a rfl (ha 3), ren_a rfl (ha 4), ren_a rfl (ha 5), ren_a rfl (ha 6), ren_a rfl (ha 7), ren_a rfl (ha 8), ?_, trivial⟩
 ·rw [clV_ren W _ _ (id10 (by decide)) (rv' := .slice 12 0 (n + 1) (n + 1) 3) (by rw [rr]; rfl)]; rfl
 ·rw [map_ren fun x hx => id10 (by have := hfl x hx; show 2 + x.1 < 11; omega)]; rfl
 ·have e : x11R 11 r = .cells (repV r) false := by
   show rC r = _
   unfold rC; rw [if_neg hr]
  refine .inr (.inr ⟨?_, ?_⟩)
  ·rw [e]
   show some (AObj.cells (repV r) false) = some (AObj.cells (rens _ (repV r)) false)
   rw [rens_repV]
  ·rw [e]; exact bels_repV _ r
variable (hmix : P.follows .mixedOrders = true) (h5 : LastOk P lb5 id) (o57 : FOk P 57 c57) (o42 : FOk P 42 c42) (o40 : FOk P 40 c40) (o35 : FOk P 35 c35) (o24 : FOk P 24 c24)
include hmix h5 o57 o42 o40 o35 o24
theorem feed_round {c : Cst} (hc : CstOk 8 c) (ho : c.over = false) (hl : c.inb.length ≤ 1000000) {L : Nat} (hL : L ≤ c.rep.length) :
  ∃ (Mg : Mem) (q : List Nat), RenM 11 q Mg (headM W (if (stepC c).rep.length = L then 2 else 11) (stepC c)) ∧ backS q (slF (stepN c)) = slF (stepN c) ∧ L ≤ (stepC c).rep.length ∧
   ∀ (Y : Ys Prop) (n : Nat) (T : Slots), 1 ≤ n → allS T (slF n) → ∀ K : Ex → Slots → Mem → Prop, (∀ T', allS T' (slF (stepN c)) → K .normal T' Mg) → code pA (callD pA tb8 (lastG 24 (ConOk P 24) la0) 5) Y c8l0 T (headM W (if c.rep.length = L then 2 else 11) c) K := by
 obtain ⟨ov, inb, fl, r⟩ := c
 have ho : ov = false := ho
 subst ho
 have hR : (if r.length = L then 2 else 11) = 2 ∨ (if r.length = L then 2 else 11) = 11 := by split; exact .inl rfl; exact .inr rfl
 have hfl := hc.fl.key
 have hrl : r.length ≤ 1000 := by have := hc.cnt; simp only at this; omega
 obtain ⟨k, hk, hkk⟩ : ∃ k, (1 ≤ k ∧ k ≤ 8) ∧ (bat inb 8 8 = k ∨ getF (bat inb 8 8) fl = none) := by
  by_cases h : 1 ≤ bat inb 8 8 ∧ bat inb 8 8 ≤ 8
  ·exact ⟨_, h, .inl rfl⟩
  ·refine ⟨1, by decide, .inr ?_⟩
   cases hg : getF (bat inb 8 8) fl with
   | none => rfl
   | some a => exact absurd (hfl _ (getF_mem hg)) h
 obtain ⟨_, _, _, _, _, ek, ej⟩ := nm_ok hk hR
 have hans := ans_con (W := W) (p := pK k (if r.length = L then 2 else 11)) hmix h5 o57 o42 o40 o35 o24 hl hc.byt hc.fl.fly (fun x hx => (ej _ (hfl x hx)).2) hrl (fun a hg => by
  rcases hkk with e | hn
  ·rw [e]; exact ek
  ·rw [hg] at hn; cases hn) hc.fl.zero rfl
 have hout := ans_out hc.byt fl r
 have hok := stepC_ok hc
 have hnl := ans_n 1032 inb fl r
 have hfl' : ∀ x ∈ (ansS 1032 inb fl r).fl, 1 ≤ x.1 ∧ x.1 ≤ 8 := hok.fl.key
 show ∃ (Mg : Mem) (q : List Nat), RenM 11 q Mg (headM W (if (ansS 1032 inb fl r).rep.length = L then 2 else 11) ⟨(ansS 1032 inb fl r).over, inb.drop (ansS 1032 inb fl r).n, (ansS 1032 inb fl r).fl, (ansS 1032 inb fl r).rep⟩) ∧ backS q (slF (ansS 1032 inb fl r).n) = slF (ansS 1032 inb fl r).n ∧ L ≤ (ansS 1032 inb fl r).rep.length ∧ ∀ (Y : Ys Prop) (n : Nat) (T : Slots), 1 ≤ n → allS T (slF n) → ∀ K : Ex → Slots → Mem → Prop, (∀ T', allS T' (slF (ansS 1032 inb fl r).n) → K .normal T' Mg) → _
 generalize ansS 1032 inb fl r = x at hans hout hnl hfl' ⊢
 rcases hans with ⟨Ao, hB, e1, e2, h⟩ | ⟨Ao, hB, e1, e2, e3, h⟩
 ·obtain ⟨τ, hcal⟩ := call24s hk hR hfl hkk hfl' hB h
  rw [e1]
  exact ⟨_, id12, head_s hR hfl' (upd_ok hkk hc.fl.nd hout fun ho _ => e2 ho), rfl, hL, fun Y n T hn hT K hK => gd_s Y (ConOk P 24) W.nm W.ou W.st W.q _ _ _ _ _ _ _ _ .dead _ _ _ _ _ _ _ _ _ _ _ _ _ _ _ _ inb _ n x.n hnl hn hl (slc_drop hnl) x.over hcal T hT K hK⟩
 ·obtain ⟨τ, hcal⟩ := call24n hk hR hfl hkk hfl' hB h
  have hL2 : L ≤ x.rep.length := by rw [e2]; exact Nat.le_succ_of_le hL
  have hL3 : ¬ x.rep.length = L := by have : L ≤ r.length := hL; omega
  rw [if_neg hL3, e1]
  exact ⟨_, q13, head_n e2 hfl' (upd_ok hkk hc.fl.nd hout fun _ h => absurd (congrArg List.length h) (by omega)), rfl, hL2, fun Y n T hn hT K hK => gd_n Y (ConOk P 24) W.nm W.ou W.st W.q _ _ _ _ _ _ _ _ _ _ _ _ _ _ _ _ _ _ _ _ _ _ _ _ _ inb _ n x.n hnl hn hl (slc_drop hnl) false hcal T hT K hK⟩
end
abbrev bl11 (W : Cli) (c : Cst) : List AObj := [clS W 2 c, .map (enF pF c.fl) W.q false, rC c.rep, aF W c.fl 1, aF W c.fl 2, aF W c.fl 3, aF W c.fl 4, aF W c.fl 5, aF W c.fl 6, aF W c.fl 7, aF W c.fl 8]
abbrev bl11' (W : Cli) (c : Cst) : List AObj := [clS W 11 c, .map (enF pF c.fl) W.q false, .dead, aF W c.fl 1, aF W c.fl 2, aF W c.fl 3, aF W c.fl 4, aF W c.fl 5, aF W c.fl 6, aF W c.fl 7, aF W c.fl 8]
def feedK (W : Cli) (c : Cst) (b : List Nat) (d : Cst) : Con :=
 if d.rep.length = c.rep.length then ⟨[.ptr 0 0, .str b], bl11 W c, .tuple [], bl11 W d, []⟩
 else ⟨[.ptr 0 0, .str b], bl11 W c, .tuple [], bl11' W d, [(11, .cells (repV d.rep) false)]⟩
section
variable {P : Program} {W : Cli}
theorem tb8_ok (o21 : FOk P 21 c21) : TabOk P tb8 := by
 intro f af h
 simp only [tb8] at h
 by_cases e : f = 21
 ·subst e; cases h; exact o21
 ·rw [nbeqF e, cond_false] at h; cases h
theorem seq_rep {c : Cst} (hc : CstOk 8 c) : ∀ i, c.rep.length ≤ (seqC c i).1.rep.length
 | 0 => Nat.le_refl _
 | i + 1 => by
  have h1 := seq_rep hc i
  have h2 := ans_out (seqC_ok hc i).byt (seqC c i).1.fl (seqC c i).1.rep
  show _ ≤ (ansS 1032 (seqC c i).1.inb (seqC c i).1.fl (seqC c i).1.rep).rep.length
  generalize ansS 1032 (seqC c i).1.inb (seqC c i).1.fl (seqC c i).1.rep = x at h2
  cases h2 with
  | bad => exact h1
  | need => exact h1
  | put => exact h1
  | dn => show _ ≤ (_ ++ [_]).length; rw [List.length_append]; omega
theorem seq_inb {c : Cst} : ∀ i, (seqC c i).1.inb.length ≤ c.inb.length
 | 0 => Nat.le_refl _
 | i + 1 => by
  have h1 := seq_inb (c := c) i
  show ((seqC c i).1.inb.drop _).length ≤ _
  rw [List.length_drop]; omega
variable (hmix : P.follows .mixedOrders = true) (h5 : LastOk P lb5 id) (o57 : FOk P 57 c57) (o42 : FOk P 42 c42) (o40 : FOk P 40 c40) (o35 : FOk P 35 c35) (o24 : FOk P 24 c24)
include hmix h5 o57 o42 o40 o35 o24
theorem feed_loop {c : Cst} (hc : CstOk 8 c) (ho : c.over = false) (hl : c.inb.length ≤ 1000000) (k : Nat) (hk : c.inb.length < k) (hk2 : k ≤ 1000000) :
  LoopOkD (callD pA tb8 (lastG 24 (ConOk P 24) la0) 5) 11 c8l0 (.exit 0) (memL 11 [(0, clS W 2 c), (1, .map (enF pF c.fl) W.q false), (2, rC c.rep), (3, aF W c.fl 1), (4, aF W c.fl 2), (5, aF W c.fl 3), (6, aF W c.fl 4), (7, aF W c.fl 5), (8, aF W c.fl 6), (9, aF W c.fl 7), (10, aF W c.fl 8)]) (slF 1)
   (fun _ => True) (fun _ => headM W (if (runC 1032 k c).rep.length = c.rep.length then 2 else 11) (runC 1032 k c)) (fun _ => slF 0) := by
 obtain ⟨N, g1, g2, g3, g4, g5⟩ := run_seq k c ho hk
 have hr := fun i (hi : i < N) => feed_round (W := W) hmix h5 o57 o42 o40 o35 o24 (seqC_ok hc i) (g3 i hi).1 (by have := seq_inb (c := c) i; omega) (seq_rep hc i)
 classical
 let Mg : Nat → Mem := fun i => if h : i < N then (hr i h).choose else memL 0 []
 let q : Nat → List Nat := fun i => if h : i < N then (hr i h).choose_spec.choose else []
 have hs : ∀ i, i < N → RenM 11 (q i) (Mg i) (headM W (if (seqC c (i + 1)).1.rep.length = c.rep.length then 2 else 11) (seqC c (i + 1)).1) ∧ backS (q i) (slF (seqC c (i + 1)).2) = slF (seqC c (i + 1)).2 ∧
   ∀ (Y : Ys Prop) (n : Nat) (T : Slots), 1 ≤ n → allS T (slF n) → ∀ K : Ex → Slots → Mem → Prop, (∀ T', allS T' (slF (seqC c (i + 1)).2) → K .normal T' (Mg i)) → code pA (callD pA tb8 (lastG 24 (ConOk P 24) la0) 5) Y c8l0 T (headM W (if (seqC c i).1.rep.length = c.rep.length then 2 else 11) (seqC c i).1) K := by
  intro i hi
  have h := (hr i hi).choose_spec.choose_spec
  simp only [Mg, q, dif_pos hi]
  exact ⟨h.1, h.2.1, h.2.2.2⟩
 rw [← g5]
 have hl0 := loopR (cfy := callD pA tb8 (lastG 24 (ConOk P 24) la0) 5) (b := c8l0) (e := .exit 0) (B := 11) (fun h => by cases h) N (Nat.lt_of_lt_of_le (rounds_big (n := N) (by omega)) (Nat.sub_le _ _)) (l0 := slF 1) (q0 := id12)
  (M := fun i => headM W (if (seqC c i).1.rep.length = c.rep.length then 2 else 11) (seqC c i).1) (Mg := Mg) (l := fun i => slF (seqC c i).2) (lg := fun i => slF (seqC c (i + 1)).2) (q := q) (M1 := headM W (if (seqC c N).1.rep.length = c.rep.length then 2 else 11) (seqC c N).1) (l1 := slF 0)
  (M0 := memL 11 [(0, clS W 2 c), (1, .map (enF pF c.fl) W.q false), (2, rC c.rep), (3, aF W c.fl 1), (4, aF W c.fl 2), (5, aF W c.fl 3), (6, aF W c.fl 4), (7, aF W c.fl 5), (8, aF W c.fl 6), (9, aF W c.fl 7), (10, aF W c.fl 8)])
  ?_ rfl (fun i hi => (hs i hi).1) (fun i hi => (hs i hi).2.1) (fun Y i T hi hT K hK => (hs i hi).2.2 Y _ T (g3 i hi).2 hT K hK) (fun Y T hT K hK => ?_)
 ·exact hl0
 ·show RenM 11 id12 _ (headM W (if c.rep.length = c.rep.length then 2 else 11) c)
  rw [if_pos rfl]
  obtain ⟨ov, inb, fl, r⟩ := c
  have h := head_s (W := W) (R := 2) (.inl rfl) (ov := ov) (inb := inb) (fl := fl) (r := r) hc.fl.key (a := aF W fl) (fun _ => .inr rfl)
  refine ⟨h.low, h.next, h.len, h.nd, fun b o hb => ?_⟩
  obtain ⟨h1, h2⟩ := h.objs b o hb
  refine ⟨h1, ?_⟩
  have hb12 : b < 12 := h1
  rw [id12_lt hb12] at h2 ⊢
  by_cases h11 : b = 11
  ·subst h11
   have : some AObj.dead = some o := hb
   injection this with this
   exact .inl this.symm
  ·have e : ∀ b, b < 11 → (m12 (.cells (clV W ov inb (rvR 2 r)) false) (.map (enF pF fl) W.q false) (x2R 2 r) (aF W fl) (x11R 2 r)).get b = (memL 11 [(0, clS W 2 ⟨ov, inb, fl, r⟩), (1, .map (enF pF fl) W.q false), (2, rC r), (3, aF W fl 1), (4, aF W fl 2), (5, aF W fl 3), (6, aF W fl 4), (7, aF W fl 5), (8, aF W fl 6), (9, aF W fl 7), (10, aF W fl 8)]).get b := by
    intro b hb
    match b, hb with
    | 0, _ | 1, _ | 2, _ | 3, _ | 4, _ | 5, _ | 6, _ | 7, _ | 8, _ | 9, _ | 10, _ => rfl
    | n + 11, h => omega
   rw [e b (by omega)] at h2
   exact h2
 ·exact gd_e Y (ConOk P 24) W.nm W.ou W.st W.q _ .nilslice _ .dead _ _ .dead .dead .dead _ _ _ _ _ _ _ _ .dead .dead .dead .dead .dead .dead .dead .dead _ [] 0 _ (by decide) T (by rw [g4] at hT; exact hT) K hK
theorem feed_ok (o21 : FOk P 21 c21) (o8 : FOk P 8 c8) {c : Cst} (hc : CstOk 8 c) (b : List Nat) (hb : ∀ x ∈ b, x < 256) (hl : c.inb.length + b.length < 1000000) : ConOk P 8 (feedK W c b (feedC 1032 c b)) := by
 have hcf := callD_sound (A := pA) pHolds hmix (tb8_ok o21) (lastG_ok (callable_fok o24) (fun _ h => h) la0_ok) 5
 unfold feedC
 cases ho : c.over with
 | true =>
  rw [if_pos rfl]
  unfold feedK
  rw [if_pos rfl]
  obtain ⟨ov, inb, fl, r⟩ := c
  have ho : ov = true := ho
  subst ho
  exact conOk_walk hmix o8 hcf (fd_o Ys.none (ConOk P 24) W.nm W.ou W.st W.q _ .nilslice _ .dead _ .dead .dead .dead .dead _ _ _ _ _ _ _ _ .dead .dead .dead .dead .dead .dead .dead .dead inb [] 0 b)
 | false =>
  rw [if_neg (by decide)]
  have hc2 : CstOk 8 ⟨false, c.inb ++ b, c.fl, c.rep⟩ := ⟨hc.fl, fun x hx => (List.mem_append.1 hx).elim (hc.byt x) (hb x), hc.cnt, fun h => by cases h⟩
  have hlp := feed_loop (W := W) hmix h5 o57 o42 o40 o35 o24 hc2 rfl (by show (c.inb ++ b).length ≤ _; rw [List.length_append]; omega) (c.inb.length + b.length + 1) (by show (c.inb ++ b).length < _; rw [List.length_append]; omega) (by omega)
  have hmono : c.rep.length ≤ (runC 1032 (c.inb.length + b.length + 1) ⟨false, c.inb ++ b, c.fl, c.rep⟩).rep.length := by
   obtain ⟨N, _, _, _, _, g5⟩ := run_seq (c.inb.length + b.length + 1) ⟨false, c.inb ++ b, c.fl, c.rep⟩ rfl (by show (c.inb ++ b).length < _; rw [List.length_append]; omega)
   rw [← g5]
   exact seq_rep hc2 N
  generalize runC 1032 (c.inb.length + b.length + 1) ⟨false, c.inb ++ b, c.fl, c.rep⟩ = d at hlp hmono ⊢
  unfold feedK
  obtain ⟨ov, inb, fl, r⟩ := c
  obtain ⟨ov2, inb2, fl2, r2⟩ := d
  have ho : ov = false := ho
  subst ho
  simp only at hlp hmono hl ⊢
  have hcat : binV .add (.str inb) (.str b) = some (.str (inb ++ b)) := by
   show (bif Nat.ble _ _ then _ else _) = _
   rw [nble_iff.2 (by omega), cond_true]
  by_cases hr : r2.length = r.length
  ·rw [if_pos hr] at hlp ⊢
   exact conOk_walkD hmix o8 hcf (fd_s Ys.none (ConOk P 24) W.nm W.ou W.st W.q _ _ _ _ _ .dead _ .dead .dead _ _ _ _ _ _ _ _ _ _ _ _ _ _ _ _ inb (inb ++ b) 0 b inb2 ov2 hcat hlp)
  ·rw [if_neg hr] at hlp ⊢
   have hne : r2 ≠ [] := fun h => by
    rw [h] at hr hmono
    exact hr (Nat.le_antisymm (Nat.zero_le _) hmono)
   rw [show AObj.cells (repV r2) false = rC r2 from (if_neg hne).symm]
   exact conOk_walkD hmix o8 hcf (fd_n Ys.none (ConOk P 24) W.nm W.ou W.st W.q _ _ _ _ _ .dead _ .dead (rC r2) _ _ _ _ _ _ _ _ _ _ _ _ _ _ _ _ inb (inb ++ b) 0 b inb2 ov2 hcat hlp)
end
end Go.Proofs.Ytblblhfgpcgheaa
