/- A client's answers as they come: fed whole or in whatever pieces it is the same. No condition. -/
import Derived.Test.YtblblhfgpcgheaaCodePP
import Derived.Test.YtblblhfgpcgheaaAM49
namespace Go.Proofs.Ytblblhfgpcgheaa
open Go Go.AM
set_option maxRecDepth 100000
set_option maxHeartbeats 4000000
set_option linter.unusedVariables false
set_option linter.unusedSectionVars false
structure Fly where
 (kind len off : Nat) (data : List Nat) (err : Nat)
abbrev Fl := List (Nat × Fly)
abbrev Reps := List (Nat × Nat × List Nat)
def getF (k : Nat) : Fl → Option Fly
 | [] => none
 | (j, a) :: l => if k = j then some a else getF k l
def putF (k : Nat) (a : Fly) : Fl → Fl
 | [] => []
 | (j, b) :: l => if k = j then (j, a) :: l else (j, b) :: putF k a l
def delF (k : Nat) : Fl → Fl
 | [] => []
 | (j, b) :: l => if k = j then l else (j, b) :: delF k l
def beN (l : List Nat) : Nat := l.foldl (fun n b => n * 256 + b) 0
def bat (s : List Nat) (i n : Nat) : Nat := beN ((s.drop i).take n)
theorem bat_app {s t : List Nat} {i n : Nat} (h : i + n ≤ s.length) : bat (s ++ t) i n = bat s i n := by
 unfold bat
 rw [List.drop_append_of_le_length (by omega), List.take_append_of_le_length (by rw [List.length_drop]; omega)]
structure Stp where
 (n : Nat) (over : Bool) (fl : Fl) (rep : Reps)
def badS (r : Reps) : Stp := ⟨0, true, [], r⟩
def needS (f : Fl) (r : Reps) : Stp := ⟨0, false, f, r⟩
def dnS (f : Fl) (r : Reps) (k e : Nat) (d : List Nat) (n : Nat) : Stp := ⟨n, false, delF k f, r ++ [(e, k, if e = 0 then d else [])]⟩
def addD (kd : Nat) (a : Fly) (x : List Nat) : Fly := if kd = 1 then ⟨a.kind, a.len, a.off, a.data ++ x.drop 8, a.err⟩ else a
def setE (kd : Nat) (a : Fly) (x : List Nat) : Fly := if 32768 ≤ kd then ⟨a.kind, a.len, a.off, a.data, if 4 ≤ x.length then bat x 0 4 else 5⟩ else a
def lastS (f : Fl) (r : Reps) (n fg ck : Nat) (a : Fly) : Stp :=
 if fg % 2 = 1 then
  if a.err = 0 ∧ a.kind = 0 ∧ a.data.length < a.len then badS r else dnS (putF ck a f) r ck a.err a.data n
 else ⟨n, false, putF ck a f, r⟩
def chunkS (f : Fl) (r : Reps) (n fg kd ck : Nat) (x : List Nat) : Stp :=
 match getF ck f with
 | none => badS r
 | some a =>
  if kd = 1 ∧ ¬ (8 ≤ x.length ∧ a.kind = 0 ∧ bat x 0 8 = (a.off + a.data.length) % 18446744073709551616 ∧ x.length - 8 ≤ a.len - a.data.length) then badS r else
  lastS f r n fg ck (setE kd (addD kd a x) x)
def ansS (most : Nat) (s : List Nat) (f : Fl) (r : Reps) : Stp :=
 if s.length < 4 then needS f r
 else if bat s 0 4 = 1720595439 then
  if s.length < 20 then needS f r
  else if most < bat s 16 4 then badS r
  else if s.length - 20 < bat s 16 4 then needS f r
  else chunkS f r (20 + bat s 16 4) (bat s 4 2) (bat s 6 2) (bat s 8 8) ((s.drop 20).take (bat s 16 4))
 else if bat s 0 4 = 1732535960 then
  if s.length < 16 then needS f r
  else match getF (bat s 8 8) f with
   | none => badS r
   | some a =>
    if bat s 4 4 = 0 ∧ a.kind = 0 ∧ 0 < a.len then
     if s.length - 16 < a.len then needS f r else dnS f r (bat s 8 8) 0 ((s.drop 16).take a.len) (16 + a.len)
    else dnS f r (bat s 8 8) (bat s 4 4) [] 16
 else badS r
theorem lastS_cases (f : Fl) (r : Reps) (n fg ck : Nat) (a : Fly) : lastS f r n fg ck a = badS r ∨ (lastS f r n fg ck a).n = n ∧ (lastS f r n fg ck a).over = false := by
 unfold lastS
 split
 ·split
  ·exact .inl rfl
  ·exact .inr ⟨rfl, rfl⟩
 ·exact .inr ⟨rfl, rfl⟩
theorem chunkS_cases (f : Fl) (r : Reps) (n fg kd ck : Nat) (x : List Nat) : chunkS f r n fg kd ck x = badS r ∨ (chunkS f r n fg kd ck x).n = n ∧ (chunkS f r n fg kd ck x).over = false := by
 unfold chunkS
 cases getF ck f with
 | none => exact .inl rfl
 | some a =>
  simp only
  split
  ·exact .inl rfl
  ·exact lastS_cases _ _ _ _ _ _
theorem ans_ext (most : Nat) (s t : List Nat) (f : Fl) (r : Reps) : ansS most s f r = needS f r ∨ (ansS most (s ++ t) f r = ansS most s f r ∧ (ansS most s f r = badS r ∨ (0 < (ansS most s f r).n ∧ (ansS most s f r).n ≤ s.length ∧ (ansS most s f r).over = false))) := by
 by_cases h4 : s.length < 4
 ·exact .inl (if_pos h4)
 have hl : (s ++ t).length = s.length + t.length := List.length_append
 have a0 : bat (s ++ t) 0 4 = bat s 0 4 := bat_app (by omega)
 have e1 : ∀ u : List Nat, ¬ u.length < 4 → ansS most u f r = if bat u 0 4 = 1720595439 then (if u.length < 20 then needS f r
  else if most < bat u 16 4 then badS r
  else if u.length - 20 < bat u 16 4 then needS f r
  else chunkS f r (20 + bat u 16 4) (bat u 4 2) (bat u 6 2) (bat u 8 8) ((u.drop 20).take (bat u 16 4)))
 else if bat u 0 4 = 1732535960 then
  (if u.length < 16 then needS f r
  else match getF (bat u 8 8) f with
   | none => badS r
   | some a =>
    if bat u 4 4 = 0 ∧ a.kind = 0 ∧ 0 < a.len then
     if u.length - 16 < a.len then needS f r else dnS f r (bat u 8 8) 0 ((u.drop 16).take a.len) (16 + a.len)
    else dnS f r (bat u 8 8) (bat u 4 4) [] 16)
 else badS r := fun u h => if_neg h
 rw [e1 s h4, e1 (s ++ t) (by omega), a0]
 by_cases hc : bat s 0 4 = 1720595439
 ·rw [if_pos hc, if_pos hc]
  by_cases h20 : s.length < 20
  ·rw [if_pos h20]; exact .inl rfl
  rw [if_neg h20, if_neg (show ¬ (s ++ t).length < 20 by omega), bat_app (i := 16) (n := 4) (by omega), bat_app (i := 4) (n := 2) (by omega), bat_app (i := 6) (n := 2) (by omega), bat_app (i := 8) (n := 8) (by omega)]
  by_cases hm : most < bat s 16 4
  ·rw [if_pos hm]; exact .inr ⟨if_pos hm, .inl rfl⟩
  rw [if_neg hm]
  by_cases hb : s.length - 20 < bat s 16 4
  ·rw [if_pos hb]; exact .inl rfl
  rw [if_neg hb, if_neg hm, if_neg (show ¬ (s ++ t).length - 20 < bat s 16 4 by omega)]
  have hd : ((s ++ t).drop 20).take (bat s 16 4) = (s.drop 20).take (bat s 16 4) := by
   rw [List.drop_append_of_le_length (by omega), List.take_append_of_le_length (by rw [List.length_drop]; omega)]
  rw [hd]
  refine .inr ⟨rfl, ?_⟩
  rcases chunkS_cases f r (20 + bat s 16 4) (bat s 4 2) (bat s 6 2) (bat s 8 8) ((s.drop 20).take (bat s 16 4)) with h | ⟨h, h2⟩
  ·exact .inl h
  ·exact .inr ⟨by omega, by omega, h2⟩
 ·rw [if_neg hc, if_neg hc]
  by_cases ha : bat s 0 4 = 1732535960
  ·rw [if_pos ha, if_pos ha]
   by_cases h16 : s.length < 16
   ·rw [if_pos h16]; exact .inl rfl
   rw [if_neg h16, if_neg (show ¬ (s ++ t).length < 16 by omega), bat_app (i := 8) (n := 8) (by omega), bat_app (i := 4) (n := 4) (by omega)]
   cases hg : getF (bat s 8 8) f with
   | none => exact .inr ⟨rfl, .inl rfl⟩
   | some a =>
    simp only
    by_cases hk : bat s 4 4 = 0 ∧ a.kind = 0 ∧ 0 < a.len
    ·rw [if_pos hk]
     by_cases hn : s.length - 16 < a.len
     ·rw [if_pos hn]; exact .inl rfl
     ·rw [if_neg hn, if_pos hk, if_neg (show ¬ (s ++ t).length - 16 < a.len by omega)]
      have hd : ((s ++ t).drop 16).take a.len = (s.drop 16).take a.len := by
       rw [List.drop_append_of_le_length (by omega), List.take_append_of_le_length (by rw [List.length_drop]; omega)]
      rw [hd]
      exact .inr ⟨rfl, .inr ⟨by show 0 < 16 + a.len; omega, by show 16 + a.len ≤ _; omega, rfl⟩⟩
    ·rw [if_neg hk, if_neg hk]
     exact .inr ⟨rfl, .inr ⟨by show 0 < 16; omega, by show 16 ≤ _; omega, rfl⟩⟩
  ·rw [if_neg ha, if_neg ha]; exact .inr ⟨rfl, .inl rfl⟩
structure Cst where
 (over : Bool) (inb : List Nat) (fl : Fl) (rep : Reps)
def runC (most : Nat) : Nat → Cst → Cst
 | 0, c => c
 | k + 1, c => if c.over = true then c else
  let x := ansS most c.inb c.fl c.rep
  if x.n = 0 then ⟨x.over, c.inb, x.fl, x.rep⟩ else runC most k ⟨x.over, c.inb.drop x.n, x.fl, x.rep⟩
def feedC (most : Nat) (c : Cst) (b : List Nat) : Cst := if c.over = true then c else runC most (c.inb.length + b.length + 1) ⟨c.over, c.inb ++ b, c.fl, c.rep⟩
def SameC (c d : Cst) : Prop := c.over = d.over ∧ c.fl = d.fl ∧ c.rep = d.rep ∧ (c.over = false → c.inb = d.inb)
theorem SameC.refl (c : Cst) : SameC c c := ⟨rfl, rfl, rfl, fun _ => rfl⟩
theorem run_over (most : Nat) : ∀ k (c : Cst), c.over = true → runC most k c = c
 | 0, _, _ => rfl
 | k + 1, c, h => if_pos h
theorem run_step {most k : Nat} {c : Cst} (h : c.over = false) : runC most (k + 1) c = if (ansS most c.inb c.fl c.rep).n = 0 then ⟨(ansS most c.inb c.fl c.rep).over, c.inb, (ansS most c.inb c.fl c.rep).fl, (ansS most c.inb c.fl c.rep).rep⟩ else runC most k ⟨(ansS most c.inb c.fl c.rep).over, c.inb.drop (ansS most c.inb c.fl c.rep).n, (ansS most c.inb c.fl c.rep).fl, (ansS most c.inb c.fl c.rep).rep⟩ := by
 show (if c.over = true then c else _) = _
 rw [if_neg (by rw [h]; decide)]
theorem ans_n (most : Nat) (s : List Nat) (f : Fl) (r : Reps) : (ansS most s f r).n ≤ s.length := by
 rcases ans_ext most s [] f r with h | ⟨_, h | ⟨_, h, _⟩⟩
 ·rw [h]; exact Nat.zero_le _
 ·rw [h]; exact Nat.zero_le _
 ·exact h
theorem run_fuel (most : Nat) : ∀ (k j : Nat) (c : Cst), c.inb.length < k → c.inb.length < j → runC most k c = runC most j c
 | 0, _, _, h, _ => absurd h (Nat.not_lt_zero _)
 | _ + 1, 0, _, _, h => absurd h (Nat.not_lt_zero _)
 | k + 1, j + 1, c, h1, h2 => by
  cases ho : c.over with
  | true => rw [run_over most _ c ho, run_over most _ c ho]
  | false =>
   rw [run_step ho, run_step ho]
   have hn := ans_n most c.inb c.fl c.rep
   generalize ansS most c.inb c.fl c.rep = x at hn ⊢
   by_cases h0 : x.n = 0
   ·rw [if_pos h0, if_pos h0]
   ·rw [if_neg h0, if_neg h0]
    exact run_fuel most k j _ (by simp only [List.length_drop]; omega) (by simp only [List.length_drop]; omega)
theorem feed_two (most : Nat) (t : List Nat) : ∀ (k : Nat) (c : Cst), c.over = false → c.inb.length < k → SameC (runC most (c.inb.length + t.length + 1) ⟨c.over, c.inb ++ t, c.fl, c.rep⟩) (feedC most (runC most k c) t) := by
 intro k
 induction k with
 | zero => intro c _ h; omega
 | succ k ih =>
  intro c ho hk
  rw [run_step ho]
  have hs := run_step (most := most) (k := c.inb.length + t.length) (c := ⟨c.over, c.inb ++ t, c.fl, c.rep⟩) ho
  rcases ans_ext most c.inb t c.fl c.rep with h | ⟨h, h2⟩
  ·
   rw [h]
   show SameC _ (feedC most ⟨false, c.inb, c.fl, c.rep⟩ t)
   unfold feedC
   rw [if_neg (fun h => by cases h), ho]
   exact SameC.refl _
  ·rw [hs]
   simp only
   rw [h]
   rcases h2 with h2 | ⟨h2, h3, h4⟩
   ·rw [h2]
    show SameC ⟨true, c.inb ++ t, [], c.rep⟩ (feedC most ⟨true, c.inb, [], c.rep⟩ t)
    exact ⟨rfl, rfl, rfl, fun h => by cases h⟩
   ·generalize ansS most c.inb c.fl c.rep = x at h2 h3 h4 ⊢
    rw [if_neg (by omega), if_neg (by omega), h4]
    have e : (c.inb ++ t).drop x.n = c.inb.drop x.n ++ t := List.drop_append_of_le_length h3
    rw [e]
    have h5 := ih ⟨false, c.inb.drop x.n, x.fl, x.rep⟩ rfl (by simp only [List.length_drop]; omega)
    simp only at h5
    rw [run_fuel most (c.inb.length + t.length) ((c.inb.drop x.n).length + t.length + 1) _ (by simp only [List.length_append, List.length_drop]; omega) (by simp only [List.length_append, List.length_drop]; omega)]
    exact h5
theorem SameC.trans {a b c : Cst} (h : SameC a b) (g : SameC b c) : SameC a c := ⟨h.1.trans g.1, h.2.1.trans g.2.1, h.2.2.1.trans g.2.2.1, fun e => (h.2.2.2 e).trans (g.2.2.2 (h.1 ▸ e))⟩
theorem feed_same (most : Nat) {c d : Cst} (h : SameC c d) (t : List Nat) : SameC (feedC most c t) (feedC most d t) := by
 obtain ⟨o, i, f, r⟩ := c
 obtain ⟨o', i', f', r'⟩ := d
 obtain ⟨h1, h2, h3, h4⟩ := h
 simp only at h1 h2 h3 h4
 subst h1; subst h2; subst h3
 cases o with
 | true => exact ⟨rfl, rfl, rfl, fun h => by cases h⟩
 | false => rw [h4 rfl]; exact SameC.refl _
theorem feed_app (most : Nat) (c : Cst) (s t : List Nat) : SameC (feedC most c (s ++ t)) (feedC most (feedC most c s) t) := by
 cases ho : c.over with
 | true =>
  have e : ∀ b, feedC most c b = c := fun b => if_pos ho
  rw [e, e, e]; exact SameC.refl _
 | false =>
  have e : ∀ b, feedC most c b = runC most (c.inb.length + b.length + 1) ⟨c.over, c.inb ++ b, c.fl, c.rep⟩ := fun b => if_neg (by rw [ho]; decide)
  rw [e, e s]
  have h := feed_two most t (c.inb.length + s.length + 1) ⟨c.over, c.inb ++ s, c.fl, c.rep⟩ ho (by simp only [List.length_append]; omega)
  simp only [List.length_append, List.append_assoc] at h ⊢
  rw [show c.inb.length + (s.length + t.length) + 1 = c.inb.length + s.length + t.length + 1 by omega]
  exact h
def Settled (most : Nat) (c : Cst) : Prop := c.over = true ∨ ansS most c.inb c.fl c.rep = needS c.fl c.rep
theorem run_settled (most : Nat) : ∀ (k : Nat) (c : Cst), c.inb.length < k → Settled most (runC most k c)
 | 0, _, h => absurd h (Nat.not_lt_zero _)
 | k + 1, c, h => by
  cases ho : c.over with
  | true => rw [run_over most _ c ho]; exact .inl ho
  | false =>
   rw [run_step ho]
   rcases ans_ext most c.inb [] c.fl c.rep with h1 | ⟨_, h1 | ⟨h1, h2, h3⟩⟩
   ·rw [h1]; exact .inr h1
   ·rw [h1]; exact .inl rfl
   ·rw [if_neg (by omega)]
    exact run_settled most k _ (by simp only [List.length_drop]; omega)
theorem feed_settled (most : Nat) (c : Cst) (t : List Nat) : Settled most (feedC most c t) := by
 unfold feedC
 split
 ·rename_i h; exact .inl h
 ·exact run_settled most _ _ (by simp only [List.length_append]; omega)
theorem feed_nil {most : Nat} {c : Cst} (h : Settled most c) : feedC most c [] = c := by
 rcases h with h | h
 ·exact if_pos h
 ·unfold feedC
  split
  ·rfl
  ·rename_i ho
   have ho' : c.over = false := by simpa using ho
   rw [List.append_nil, run_step (c := ⟨c.over, c.inb, c.fl, c.rep⟩) ho']
   simp only
   rw [h]
   show (if (0 : Nat) = 0 then _ else _) = c
   rw [if_pos rfl]
   obtain ⟨o, i, f, r⟩ := c
   simp only at ho'
   subst ho'
   rfl
theorem feed_pieces (most : Nat) : ∀ (ps : List (List Nat)) (c d : Cst), Settled most c → SameC c d → SameC (feedC most c ps.flatten) (ps.foldl (feedC most) d)
 | [], c, d, hs, h => by
  show SameC (feedC most c []) d
  rw [feed_nil hs]; exact h
 | p :: ps, c, d, _, h => by
  rw [List.flatten_cons, List.foldl_cons]
  exact (feed_app most c p ps.flatten).trans (feed_pieces most ps _ _ (feed_settled most c p) (feed_same most h p))
end Go.Proofs.Ytblblhfgpcgheaa
