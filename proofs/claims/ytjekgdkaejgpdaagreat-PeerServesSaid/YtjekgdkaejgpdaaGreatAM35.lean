/- An abstract machine: an addition. No condition. -/
import Derived.Test.YtjekgdkaejgpdaaGreatAM38
import Derived.Test.YtjekgdkaejgpdaaGreatAMb
namespace Go.AM
open Go
inductive Sc where
 | nil
 | wait (n : Nat) (sc : Sc)
 | fix (s : Sl) (v : V) (sc : Sc)
 | fixM (b : Nat) (o : zAe) (sc : Sc)
 | split (s : Sl) (x : Bool) (a b : Sc)
 | inv (e : Ex) (I J : zAa → Prop) (sc : Sc)
 | res (v : V) (sc : Sc)
 | grow (s x : Opd) (sz bytes b off len cap : Nat) (cs : List V) (n : Nat) (new all : List V) (sc : Sc)
 | mset (kt : KT) (mp k x : Opd) (b : Nat) (es : List (V × V × Nat)) (c : Nat) (es' : List (V × V × Nat)) (sc : Sc)
 | ment (kt : KT) (zero : V) (mp k : Opd) (b : Nat) (es : List (V × V × Nat)) (c : Nat) (v : V) (es' : List (V × V × Nat)) (c' : Nat) (sc : Sc)
 | esto (mp s x : Opd) (b : Nat) (es : List (V × V × Nat)) (c st : Nat) (es' : List (V × V × Nat)) (sc : Sc)
 | mput (kt : KT) (mp k x : Opd) (b : Nat) (es : List (V × V × Nat)) (c : Nat) (es' : List (V × V × Nat)) (c' : Nat) (sc : Sc)
 | mdel (kt : KT) (mp k : Opd) (b : Nat) (es : List (V × V × Nat)) (c : Nat) (es' : List (V × V × Nat)) (sc : Sc)
 | inv2 (e : Ex) (M0 : Mem) (l0 : List (Sl × V)) (M1 : Mem) (l1 : List (Sl × V)) (sc : Sc)
 | inv3 (e : Ex) (M0 : Mem) (l0 : List (Sl × V)) (Q : List (V × V × Nat) → Prop) (M1 : List (V × V × Nat) → Mem) (l1 : List (V × V × Nat) → List (Sl × V)) (sc : List (V × V × Nat) → Sc)
 | invd (e : Ex) (M0 : Mem) (l0 : List (Sl × V)) (Q : List (V × V × Nat) → Prop) (M1 : List (V × V × Nat) → Mem) (l1 : List (V × V × Nat) → List (Sl × V)) (sc : List (V × V × Nat) → Sc)
 | lay (L : Lay) (sc : Sc)
 | con (C : Con) (l : List Nat) (sc : Sc)
 | conq (Q : EnL → Prop) (C : EnL → Con) (l : List Nat) (sc : EnL → Sc)
 | cal (v : V) (M0 M1 : Mem) (sc : Sc)
 | sto (n : Nat) (a x : Opd) (b off : Nat) (cs r : List V) (sc : Sc)
 | fork (a b : Sc)
def zGG : Sc → zAa → Mem → (Sc → zAa → Mem → Prop) → Prop
 | .wait (n + 1) sc, T, m, K => K (.wait n sc) T m
 | .wait 0 sc, T, m, K => zGG sc T m K
 | .fix s v sc, T, m, K => T.get s = v ∧ zGG sc (T.set v s) m K
 | .fixM b o sc, T, m, K => m.get b = some o ∧ zGG sc T (m.set b o) K
 | .split s x a b, T, m, K => T.get s = .bool x ∧ (x = true → zGG a (T.set (.bool true) s) m K) ∧ (x = false → zGG b (T.set (.bool false) s) m K)
 | sc, T, m, K => K sc T m
theorem D8.upd_sel {α : Type} (d : D8) (n : N8 α) : d.upd (fun _ => d.sel n) n = n := by
 obtain ⟨a0, a1, a2, a3, a4, a5, a6, a7⟩ := n
 cases d <;> rfl
theorem D8.upd_congr {α : Type} (d : D8) (f : α → α) (n : N8 α) (x : α) (h : f (d.sel n) = x) : d.upd f n = d.upd (fun _ => x) n := by
 obtain ⟨a0, a1, a2, a3, a4, a5, a6, a7⟩ := n
 subst h
 cases d <;> rfl
theorem zAa.set_self (T : zAa) (s : Sl) : T.set (T.get s) s = T := by
 obtain ⟨a, b, c⟩ := s
 simp only [zAa.set, zAa.get]
 rw [D8.upd_congr a _ T (a.sel T) ?_, D8.upd_sel]
 rw [D8.upd_congr b _ (a.sel T) (b.sel (a.sel T)) ?_, D8.upd_sel]
 exact D8.upd_sel c _
theorem zC2.set_self : ∀ (t : zC2) (n : Nat) (o : zAe), t.get n = some o → t.set o n = t
 | .leaf, n, o, h => by cases h
 | .node v l r, n, o, h => by
  simp only [zC2.get] at h
  simp only [zC2.set]
  cases e : Nat.beq n 0 with
  | true => rw [e] at h; simp only [cond_true] at h ⊢; rw [h]
  | false =>
   rw [e] at h
   simp only [cond_false] at h ⊢
   cases e2 : Nat.beq (n % 2) 1 with
   | true => rw [e2] at h; simp only [cond_true] at h ⊢; rw [zC2.set_self l _ _ h]
   | false => rw [e2] at h; simp only [cond_false] at h ⊢; rw [zC2.set_self r _ _ h]
theorem Mem.set_self {m : Mem} {b : Nat} {o : zAe} (h : m.get b = some o) : m.set b o = m := by
 unfold Mem.set
 rw [zC2.set_self m.t b o h]
theorem zBL : ∀ (sc : Sc) {T : zAa} {m : Mem} {K : Sc → zAa → Mem → Prop}, zGG sc T m K → ∃ sc', K sc' T m
 | .nil, _, _, _, h => ⟨_, h⟩
 | .wait (n + 1) sc, _, _, _, h => ⟨_, h⟩
 | .wait 0 sc, _, _, _, h => zBL sc h
 | .fix s v sc, T, m, K, h => by
  obtain ⟨rfl, h⟩ := h
  rw [zAa.set_self] at h
  exact zBL sc h
 | .fixM b o sc, T, m, K, h => by
  obtain ⟨h1, h⟩ := h
  rw [Mem.set_self h1] at h
  exact zBL sc h
 | .split s x a b, T, m, K, h => by
  obtain ⟨h1, h2, h3⟩ := h
  have e := zAa.set_self T s
  rw [h1] at e
  cases x with
  | true =>
   have := h2 rfl
   rw [e] at this
   exact zBL a this
  | false =>
   have := h3 rfl
   rw [e] at this
   exact zBL b this
 | .inv e I J sc, _, _, _, h => ⟨_, h⟩
 | .res v sc, _, _, _, h => ⟨_, h⟩
 | .sto n a x b off cs r sc, _, _, _, h => ⟨_, h⟩
 | .lay L sc, _, _, _, h => ⟨_, h⟩
 | .con C l sc, _, _, _, h => ⟨_, h⟩
 | .conq Q C l sc, _, _, _, h => ⟨_, h⟩
 | .cal v M0 M1 sc, _, _, _, h => ⟨_, h⟩
 | .inv2 e M0 l0 M1 l1 sc, _, _, _, h => ⟨_, h⟩
 | .inv3 e M0 l0 Q M1 l1 sc, _, _, _, h => ⟨_, h⟩
 | .invd e M0 l0 Q M1 l1 sc, _, _, _, h => ⟨_, h⟩
 | .mset kt mp k x b es c es' sc, _, _, _, h => ⟨_, h⟩
 | .ment kt zero mp k b es c v es' c' sc, _, _, _, h => ⟨_, h⟩
 | .esto mp s x b es c st es' sc, _, _, _, h => ⟨_, h⟩
 | .mput kt mp k x b es c es' c' sc, _, _, _, h => ⟨_, h⟩
 | .mdel kt mp k b es c es' sc, _, _, _, h => ⟨_, h⟩
 | .grow s x sz bytes b off len cap cs n new all sc, _, _, _, h => ⟨_, h⟩
 | .fork a b, _, _, _, h => ⟨_, h⟩
def V.reflS : V → Bool
 | .bool _ | .int _ _ | .str _ | .ptr _ _ | .nilptr | .slice _ _ _ _ _ | .nilslice | .map _ | .nilmap | .nilfunc | .niliface => true
 | _ => false
def zGp : List V → Bool
 | [] => true
 | v :: l => v.reflS && zGp l
def V.refl1 : V → Bool
 | .agg l => zGp l
 | .tuple l => zGp l
 | v => v.reflS
def eRefl : List (V × V × Nat) → Bool
 | [] => true
 | (k, v, _) :: l => k.refl1 && v.refl1 && eRefl l
def zAe.refl1 : zAe → Bool
 | .cells l _ => zGp l
 | .map es _ _ => eRefl es
 | _ => false
theorem zF0 : ∀ (l : List Nat), zFn l l = true
 | [] => rfl
 | a :: l => by simp only [zFn, Nat.beq_refl, zF0 l, Bool.and_self]
theorem reflS_eqB : ∀ {v : V}, v.reflS = true → v.eqB v = true := by
 intro v h
 cases v <;> simp [V.reflS] at h <;> simp [V.eqB, Nat.beq_refl, zF0]
theorem zDq : ∀ {l : List V}, zGp l = true → eqBs l l = true
 | [], _ => rfl
 | v :: l, h => by
  simp only [zGp, Bool.and_eq_true] at h
  simp only [eqBs, reflS_eqB h.1, zDq h.2, Bool.and_self]
theorem zF9 : ∀ {v : V}, v.refl1 = true → v.eqB1 v = true := by
 intro v h
 cases v <;> simp only [V.refl1] at h
 case agg l => exact zDq h
 case tuple l => exact zDq h
 all_goals first | (simp [V.reflS] at h; done) | exact reflS_eqB h
theorem zIG : ∀ {l : List (V × V × Nat)}, eRefl l = true → eqEs l l = true
 | [], _ => rfl
 | (k, v, n) :: l, h => by
  simp only [eRefl, Bool.and_eq_true] at h
  simp only [eqEs, zF9 h.1.1, zF9 h.1.2, Nat.beq_refl, zIG h.2, Bool.and_self]
theorem zAe.refl1_eqB {o : zAe} (h : o.refl1 = true) : o.eqB o = true := by
 cases o <;> simp only [zAe.refl1] at h
 case cells l r => simp [zAe.eqB, zDq h]
 case map es c r => simp [zAe.eqB, zIG h, Nat.beq_refl]
 all_goals cases h
def again1P (T : zAa) (m m' : Mem) (o : zAO) : Prop :=
 bif zAT o T then
  match o.op, o.dst with
  | .quiet _ f, some d => f T m' = some (T.get d) ∧ (T.get d).refl1 = true
  | .alloc _, some d => match T.get d with
   | .ptr b _ | .slice b _ _ _ _ | .map b => match m.get b, m'.get b with | some x, some y => x = y ∧ x.refl1 = true | _, _ => False
   | _ => False
  | _, _ => False
 else True
def againP (T : zAa) (m m' : Mem) : List zAO → Prop
 | [] => True
 | o :: os => again1P T m m' o ∧ againP T m m' os
theorem again1P_ok {T : zAa} {m m' : Mem} {o : zAO} (h : again1P T m m' o) : zE9 T m m' o = true := by
 unfold again1P at h
 unfold zE9
 cases e : zAT o T with
 | false => rfl
 | true =>
  simp only [e, cond_true] at h ⊢
  split at h
  ·rename_i e1 e2
   simp only [e1, e2, h.1]
   exact zF9 h.2
  ·rename_i e1 e2
   simp only [e1, e2]
   split at h
   ·rename_i e3
    simp only [e3]
    split at h
    ·rename_i e4 e5
     simp only [e4, e5]
     obtain ⟨rfl, h2⟩ := h
     exact zAe.refl1_eqB h2
    ·exact h.elim
   ·rename_i e3
    simp only [e3]
    split at h
    ·rename_i e4 e5
     simp only [e4, e5]
     obtain ⟨rfl, h2⟩ := h
     exact zAe.refl1_eqB h2
    ·exact h.elim
   ·rename_i e3
    simp only [e3]
    split at h
    ·rename_i e4 e5
     simp only [e4, e5]
     obtain ⟨rfl, h2⟩ := h
     exact zAe.refl1_eqB h2
    ·exact h.elim
   ·exact h.elim
  ·exact h.elim
theorem zH3 {T : zAa} {m m' : Mem} : ∀ {l : List zAO}, againP T m m' l → l.all (zE9 T m m') = true
 | [], _ => rfl
 | o :: os, ⟨h1, h2⟩ => by simp only [List.all_cons, again1P_ok h1, zH3 h2, Bool.and_self]
def zBv (sz bytes n : Nat) (new : List V) (off len cap : Nat) (cs : List V) : Option (List V) :=
 bif !Nat.beq n 0 && !Nat.ble (len + n) cap && small (len + n) bytes && zDL new then (match takeN (len * sz) (zCk off cs) with | some old => some (old ++ new) | none => none) else none
theorem growV_ok {sz bytes n : Nat} {new : List V} {b off len cap : Nat} {cs all : List V} (h : zBv sz bytes n new off len cap cs = some all) {m : Mem} (hm : m.get b = some (.cells cs false)) : zGo sz bytes n new (.slice b off len cap sz) m = some (.slice m.next 0 (len + n) (len + n) sz, (m.set b .dead).new (.cells all false)) := by
 unfold zBv at h
 obtain ⟨h1, h2⟩ := zAF h
 simp only [Bool.and_eq_true, Bool.not_eq_true'] at h1
 obtain ⟨⟨⟨h3, h4⟩, h5⟩, h6⟩ := h1
 split at h2
 ·rename_i old ho
  cases h2
  simp only [zGo, h3, cond_false, Nat.beq_refl, cond_true, h4, h5, h6, Bool.and_self, hm, ho]
 ·cases h2
def mentV (kt : KT) (zero k : V) (es : List (V × V × Nat)) (c : Nat) : Option (V × List (V × V × Nat) × Nat) :=
 match zBC kt k es with
 | some (some (i, v)) => match nth es i with
  | some e => some (.tuple [v, .int .i64 (.ofNat e.2.2)], es.modify i (fun e => (k, e.2)), c)
  | none => none
 | some none => some (.tuple [zero, .int .i64 (.ofNat c)], es ++ [(k, zero, c)], c + 1)
 | none => none
def estoV (st : Nat) (x : V) (es : List (V × V × Nat)) : Option (List (V × V × Nat)) :=
 match findB st es 0 with
 | some i => some (es.modify i fun e => (e.1, x, e.2.2))
 | none => none
theorem lMent_eq {kt : KT} {zero : V} {mp k : Opd} {T : zAa} {m : Mem} {b : Nat} {es es' : List (V × V × Nat)} {c c' : Nat} {v : V} (h1 : ev T mp = .map b) (h2 : m.get b = some (.map es c false)) (h3 : mentV kt zero (ev T k) es c = some (v, es', c')) : lMent kt zero mp k T m = some (v, m.set b (.map es' c' false)) := by
 simp only [lMent, h1, h2]
 unfold mentV at h3
 split at h3
 ·rename_i e1
  split at h3
  ·rename_i e2
   cases h3; simp only [e1, e2]
  ·cases h3
 ·rename_i e1
  cases h3; simp only [e1]
 ·cases h3
theorem lEsto_eq {mp s x : Opd} {T : zAa} {m : Mem} {b st : Nat} {es es' : List (V × V × Nat)} {c : Nat} (h1 : ev T mp = .map b) (hs : ev T s = .int .i64 ((st : Nat) : Int)) (h2 : m.get b = some (.map es c false)) (h3 : estoV st (ev T x) es = some es') : lEsto mp s x T m = some (.undef, m.set b (.map es' c false)) := by
 have hs' : ev T s = .int .i64 (.ofNat st) := hs
 simp only [lEsto, h1, hs', h2]
 unfold estoV at h3
 split at h3
 ·rename_i e1
  cases h3; simp only [e1]
 ·cases h3
def msetV (kt : KT) (k x : V) (es : List (V × V × Nat)) (c : Nat) : Option (List (V × V × Nat) × Nat) :=
 match zBC kt k es with
 | some (some (i, _)) => some (es.modify i fun e => (k, x, e.2.2), c)
 | some none => some (es ++ [(k, x, c)], c + 1)
 | none => none
theorem lMput_eq {kt : KT} {mp k x : Opd} {T : zAa} {m : Mem} {b : Nat} {es es' : List (V × V × Nat)} {c c' : Nat} (h1 : ev T mp = .map b) (h2 : m.get b = some (.map es c false)) (h3 : msetV kt (ev T k) (ev T x) es c = some (es', c')) : zB3 kt mp k x T m = some (.undef, m.set b (.map es' c' false)) := by
 simp only [zB3, h1, h2]
 unfold msetV at h3
 split at h3
 ·rename_i e1
  cases h3; simp only [e1]
 ·rename_i e1
  cases h3; simp only [e1]
 ·cases h3
def zCo (kt : KT) (k : V) (es : List (V × V × Nat)) : Option (List (V × V × Nat)) :=
 match zBC kt k es with
 | some (some (i, _)) => some (es.eraseIdx i)
 | _ => none
theorem lMdel_eq {kt : KT} {mp k : Opd} {T : zAa} {m : Mem} {b : Nat} {es es' : List (V × V × Nat)} {c : Nat} (h1 : ev T mp = .map b) (h2 : m.get b = some (.map es c false)) (h3 : zCo kt (ev T k) es = some es') : zCp kt mp k T m = some (.tuple [], m.set b (.map es' c false)) := by
 simp only [zCp, h1, h2]
 unfold zCo at h3
 split at h3
 ·rename_i e1
  cases h3; simp only [e1]
 ·cases h3
abbrev CFP := V → List V → Mem → Sc → (V → Mem → Sc → Prop) → Prop
section
variable (cfp : CFP)
def zFD (o : AOp) (T : zAa) (m : Mem) (sc : Sc) (K : V → Mem → Sc → Prop) : Prop :=
 match o with
 | .quiet _ f => match sc with
  | .res v sc => f T m = some v ∧ K v m sc
  | sc => match f T m with | some v => K v m sc | none => False
 | .alloc f => match f T m.next with | some (v, ob) => K v (m.new ob) sc | none => False
 | .loud f => match sc with
  | .sto n a x b off cs r sc => f = zA0 n a x ∧ ev T a = .ptr b off ∧ m.get b = some (.cells cs false) ∧ (ev T x).cells.length = n ∧ putAt (ev T x).cells off cs = some r ∧ K .undef (m.set b (.cells r false)) sc
  | .grow s x sz bytes b off len cap cs n new all sc => f = zE2 sz bytes s x ∧ ev T s = .slice b off len cap sz ∧ strOk sz (ev T x) = true ∧ srcLen (ev T x) = some n ∧ zCg m sz none (ev T x) = some new ∧ m.get b = some (.cells cs false) ∧ zBv sz bytes n new off len cap cs = some all ∧
   K (.slice m.next 0 (len + n) (len + n) sz) ((m.set b .dead).new (.cells all false)) sc
  | .mset kt mp k x b es c es' sc => f = zB3 kt mp k x ∧ ev T mp = .map b ∧ m.get b = some (.map es c false) ∧ zBC kt (ev T k) es = some none ∧ es ++ [(ev T k, ev T x, c)] = es' ∧ K .undef (m.set b (.map es' (c + 1) false)) sc
  | .ment kt zero mp k b es c v es' c' sc => f = lMent kt zero mp k ∧ ev T mp = .map b ∧ m.get b = some (.map es c false) ∧ mentV kt zero (ev T k) es c = some (v, es', c') ∧ K v (m.set b (.map es' c' false)) sc
  | .esto mp s x b es c st es' sc => f = lEsto mp s x ∧ ev T mp = .map b ∧ ev T s = .int .i64 ((st : Nat) : Int) ∧ m.get b = some (.map es c false) ∧ estoV st (ev T x) es = some es' ∧ K .undef (m.set b (.map es' c false)) sc
  | .mput kt mp k x b es c es' c' sc => f = zB3 kt mp k x ∧ ev T mp = .map b ∧ m.get b = some (.map es c false) ∧ msetV kt (ev T k) (ev T x) es c = some (es', c') ∧ K .undef (m.set b (.map es' c' false)) sc
  | .mdel kt mp k b es c es' sc => f = zCp kt mp k ∧ ev T mp = .map b ∧ m.get b = some (.map es c false) ∧ zCo kt (ev T k) es = some es' ∧ K (.tuple []) (m.set b (.map es' c false)) sc
  | sc => match f T m with | some (v, m') => K v m' sc | none => False
 | .next it => match nextS m (ev T it) with | some [(v, m')] => K v m' sc | _ => False
 | .call f args => cfp (ev T f) (Opd.evs T args) m sc K
def opersP : List zAO → zAa → Mem → Sc → (zAa → Mem → Sc → Prop) → Prop
 | [], T, m, sc, K => K T m sc
 | o :: os, T, m, sc, K => zGG sc T m fun sc T m =>
  bif zAT o T then zFD cfp o.op T m sc fun v m' sc => opersP os (zD7 o.dst v T) m' sc K
  else opersP os (zD7 o.dst .undef T) m sc K
def zE7 : DT → zAa → Mem → Sc → (zAa → Mem → Sc → Prop) → Prop
 | .fin, T, m, sc, K => K T m sc
 | .calm o t, T, m, sc, K => zGG sc T m fun sc T m =>
  bif zAT o T then
   bif freshB m o.op then zFD cfp o.op T m sc fun v m' sc => zE7 t (zD7 o.dst v T) m' sc K else False
  else zE7 t (zD7 o.dst .undef T) m sc K
 | .last d t, T, m, sc, K => zGG sc T m fun sc T m =>
  bif zAT d.o T then zFD cfp d.o.op T m sc fun v m' sc =>
   againP T m m' d.again ∧ zE7 t (zD7 d.o.dst v T) m' sc K
  else zE7 t (zD7 d.o.dst .undef T) m sc K
 | .fork d t o, T, m, sc, K => match sc with
  | .fork sa sb =>
   (zGG sa T m fun sc T m => bif zAT d.o T then zFD cfp d.o.op T m sc fun v m' sc =>
    againP T m m' d.again ∧ zE7 t (zD7 d.o.dst v T) m' sc K
   else zE7 t (zD7 d.o.dst .undef T) m sc K) ∧ zE7 o T m sb K
  | _ => False
def iterP (body : zAa → Mem → Sc → (Ex → zAa → Mem → Sc → Prop) → Prop) : Nat → zAa → Mem → Sc → (Ex → zAa → Mem → Sc → Prop) → Prop
 | 0, _, _, _, _ => False
 | n + 1, T, m, sc, K => body T m sc fun e T' m' sc => match e with
  | .normal => iterP body n T' m' sc K
  | e => K e T' m' sc
def LoopOk (cfy : Ys Prop → CF Prop) (b : zAz) (e : Ex) (I J : zAa → Prop) : Prop :=
 ∀ (Y : Ys Prop) (T : zAa) (m : Mem), I T → ∀ K : Ex → zAa → Mem → Prop, (∀ T', J T' → K e T' m) → iter pA (code pA cfy Y b) rounds T m K
def zAG (T : zAa) : List (Sl × V) → Prop
 | [] => True
 | (s, v) :: l => T.get s = v ∧ zAG T l
def zDc (cfy : Ys Prop → CF Prop) (b : zAz) (e : Ex) (M0 : Mem) (l0 : List (Sl × V)) (M1 : Mem) (l1 : List (Sl × V)) : Prop :=
 ∀ (Y : Ys Prop) (T : zAa), zAG T l0 → ∀ K : Ex → zAa → Mem → Prop, (∀ T', zAG T' l1 → K e T' M1) → iter pA (code pA cfy Y b) rounds T M0 K
def setS : List (Sl × V) → zAa → zAa
 | [], T => T
 | (s, v) :: l, T => setS l (T.set v s)
theorem zFw : ∀ {l : List (Sl × V)} {T : zAa}, zAG T l → setS l T = T
 | [], _, _ => rfl
 | (s, v) :: l, T, ⟨h1, h2⟩ => by
  subst h1
  simp only [setS, zAa.set_self]
  exact zFw h2
def LoopOk3 (cfy : Ys Prop → CF Prop) (b : zAz) (e : Ex) (M0 : Mem) (l0 : List (Sl × V)) (Q : List (V × V × Nat) → Prop) (M1 : List (V × V × Nat) → Mem) (l1 : List (V × V × Nat) → List (Sl × V)) : Prop :=
 ∀ (Y : Ys Prop) (T : zAa), zAG T l0 → ∀ K : Ex → zAa → Mem → Prop, (∀ x, Q x → ∀ T', zAG T' (l1 x) → K e T' (M1 x)) → iter pA (code pA cfy Y b) rounds T M0 K
def zDy (E : Ex) (M : Mem) (l : List (Sl × V)) (e : Ex) (T : zAa) (m : Mem) : Prop := e = E ∧ m = M ∧ zAG T l
def treeL : List (Nat × zAe) → zC2 → zC2
 | [], t => t
 | (b, o) :: l, t => treeL l (t.set o b)
def zCc (n : Nat) (l : List (Nat × zAe)) : Mem := ⟨n, treeL l .leaf⟩
variable (cfy : Ys Prop → CF Prop)
def zHO : zAz → zAa → Mem → Sc → (Ex → zAa → Mem → Sc → Prop) → Prop
 | .skip, T, m, sc, K => K .normal T m sc
 | .ops l, T, m, sc, K => opersP cfp l T m sc fun T m sc => K .normal T m sc
 | .draw l s, T, m, sc, K => zE7 cfp l T m sc fun T m sc => opersP cfp s T m sc fun T m sc => K .normal T m sc
 | .seq a b, T, m, sc, K => zHO a T m sc fun e T' m' sc => match e with
  | .normal => zHO b T' m' sc K
  | e => K e T' m' sc
 | .cond c a b, T, m, sc, K => zGG sc T m fun sc T m => match ev T c with
  | .bool true => zHO a T m sc K
  | .bool false => zHO b T m sc K
  | _ => False
 | .block id b, T, m, sc, K => zHO b T m sc fun e T' m' sc => match e with
  | .exit j => bif Nat.beq j id then K .normal T' m' sc else K e T' m' sc
  | e => K e T' m' sc
 | .loop b, T, m, sc, K => zGG sc T m fun sc T m => match sc with
  | .inv e I J sc => I T ∧ LoopOk cfy b e I J ∧ ∀ T', J T' → K e T' m sc
  | .inv2 e M0 l0 M1 l1 sc => m = M0 ∧ zAG T l0 ∧ zDc cfy b e M0 l0 M1 l1 ∧ ∀ T', zAG T' l1 → K e T' M1 sc
  | .inv3 e M0 l0 Q M1 l1 sc => m = M0 ∧ zAG T l0 ∧ LoopOk3 cfy b e M0 l0 Q M1 l1 ∧ ∀ x, Q x → ∀ T', zAG T' (l1 x) → K e (setS (l1 x) T') (M1 x) (sc x)
  | sc => iterP (zHO b) rounds T m sc K
 | .exit id, T, m, sc, K => K (.exit id) T m sc
 | .ret, T, m, sc, K => K .ret T m sc
 | .rangeFunc _ _ _ _, _, _, _, _ => False
def bodyP (f : zAr) (args : List V) (m : Mem) (sc : Sc) (K : V → Mem → Sc → Prop) : Prop :=
 bif Nat.ble args.length f.nt then
  zHO cfp cfy f.body (zHA 0 args zFv) m sc fun e T m' sc => match e with
   | .exit _ => False
   | _ => match zGt f T m' with | some v => K v m' sc | none => False
 else False
end
def capOf : V → List V
 | .func _ _ cap => cap
 | _ => []
def zAw (last : CF Prop) (f : V) (args : List V) (M0 : Mem) (v : V) (M1 : Mem) : Prop := ∀ K : V → Mem → Prop, K v M1 → last f args M0 K
theorem zFm {last : CF Prop} {f : V} {a b : List V} {M0 M1 : Mem} {v : V} (e : a = b) (h : zAw last f b M0 v M1) : zAw last f a M0 v M1 := e ▸ h
def lastP (last : CF Prop) : CFP := fun f args m sc K =>
 match sc with
 | .lay L sc => (∀ (m' : Mem) (K' : V → Mem → Prop), last f args m' K' = L.go m' K') ∧ L.go m fun v m => K v m sc
 | .con C l sc => (∀ (m' : Mem) (K' : V → Mem → Prop), ConAt C (zAJ l) (args ++ capOf f) m' → K' (C.ans.ren (C.tau (zAJ l) m'.next)) (C.mem (zAJ l) m') → last f args m' K') ∧ C.wf = true ∧ (zDj l && Nat.beq l.length C.pre.length) = true ∧ args ++ capOf f = zDr (zAJ l) C.args ∧ preOk (zAJ l) m 0 C.pre ∧
  K (C.ans.ren (C.tau (zAJ l) m.next)) (C.mem (zAJ l) m) sc
 | .conq Q C l sc => (∀ (m' : Mem) (K' : V → Mem → Prop), (∃ x, Q x) → (∀ x, Q x → ConAt (C x) (zAJ l) args m') → (∀ x, Q x → K' ((C x).ans.ren ((C x).tau (zAJ l) m'.next)) ((C x).mem (zAJ l) m')) → last f args m' K') ∧ (∃ x, Q x) ∧
  (∀ x, Q x → (C x).wf = true ∧ (zDj l && Nat.beq l.length (C x).pre.length) = true ∧ args = zDr (zAJ l) (C x).args ∧ preOk (zAJ l) m 0 (C x).pre) ∧ ∀ x, Q x → K ((C x).ans.ren ((C x).tau (zAJ l) m.next)) ((C x).mem (zAJ l) m) (sc x)
 | .cal v M0 M1 sc => m = M0 ∧ zAw last f args M0 v M1 ∧ K v M1 sc
 | sc => last f args m fun v m => K v m sc
theorem fnE {a : Option V} {v : V} {m : Mem} {K : V → Mem → Prop} {x : Prop} : a = some v → (match a with | some v => K v m | none => x) = (Lay.plain v).go m K := fun h => by subst h; rfl
def callP (tab : Nat → Option zAr) (last : CF Prop) : Nat → CFP
 | 0 => lastP last
 | d + 1 => fun f args m sc K => match f with
  | .func (.func g) [] cap => match tab g with
   | some af => bodyP (callP tab last d) (zAt pA tab last d) af (args ++ cap) m sc K
   | none => lastP last (.func (.func g) [] cap) args m sc K
  | .yield _ => False
  | f => lastP last f args m sc K
def zBi (cf : CF Prop) : Prop := ∀ f args m (K K' : V → Mem → Prop), (∀ v m, K v m → K' v m) → cf f args m K → cf f args m K'
def CFPOk (cfp : CFP) (cf : CF Prop) : Prop := ∀ f args m sc (K : V → Mem → Sc → Prop), cfp f args m sc K → ∀ K0 : V → Mem → Prop, (∀ v m sc, K v m sc → K0 v m) → cf f args m K0
section
variable {cfp : CFP} {cf : CF Prop}
theorem zFC (h : CFPOk cfp cf) {o : AOp} {T : zAa} {m : Mem} {sc : Sc} {K : V → Mem → Sc → Prop} (hr : zFD cfp o T m sc K) {K0 : V → Mem → Prop} (hK : ∀ v m sc, K v m sc → K0 v m) : zCE pA cf o T m K0 := by
 cases o with
 | quiet r f =>
  simp only [zFD, zCE] at *
  split at hr
  ·obtain ⟨e, hr⟩ := hr
   simp only [e]
   exact hK _ _ _ hr
  ·split at hr
   ·rename_i e
    simp only [e]
    exact hK _ _ _ hr
   ·exact hr.elim
 | alloc f =>
  simp only [zFD, zCE] at *
  split at hr
  ·rename_i e
   simp only [e]
   exact hK _ _ _ hr
  ·exact hr.elim
 | loud f =>
  simp only [zFD, zCE] at *
  split at hr
  ·obtain ⟨rfl, e1, e2, e3, e4, hr⟩ := hr
   simp only [zA0, e1, e3, Nat.beq_refl, cond_true, zGq, e2, e4]
   exact hK _ _ _ hr
  ·obtain ⟨rfl, e1, e2, e3, e4, e5, e6, hr⟩ := hr
   simp only [zE2, e1, e2, e3, e4, cond_true, growV_ok e6 e5]
   exact hK _ _ _ hr
  ·obtain ⟨rfl, e1, e2, e3, rfl, hr⟩ := hr
   simp only [zB3, e1, e2, e3]
   exact hK _ _ _ hr
  ·obtain ⟨rfl, e1, e2, e3, hr⟩ := hr
   simp only [lMent_eq e1 e2 e3]
   exact hK _ _ _ hr
  ·obtain ⟨rfl, e1, e2, e3, e4, hr⟩ := hr
   simp only [lEsto_eq e1 e2 e3 e4]
   exact hK _ _ _ hr
  ·obtain ⟨rfl, e1, e2, e3, hr⟩ := hr
   simp only [lMput_eq e1 e2 e3]
   exact hK _ _ _ hr
  ·obtain ⟨rfl, e1, e2, e3, hr⟩ := hr
   simp only [lMdel_eq e1 e2 e3]
   exact hK _ _ _ hr
  ·split at hr
   ·rename_i e
    simp only [e]
    exact hK _ _ _ hr
   ·exact hr.elim
 | next it =>
  simp only [zFD, zCE] at *
  split at hr
  ·rename_i v m' e
   simp only [e, allR]
   exact hK _ _ _ hr
  ·exact hr.elim
 | call f args => exact h _ _ _ _ _ hr _ hK
theorem zFB (h : CFPOk cfp cf) : ∀ (l : List zAO) {T : zAa} {m : Mem} {sc : Sc} {K : zAa → Mem → Sc → Prop}, opersP cfp l T m sc K → ∀ {K0 : zAa → Mem → Prop}, (∀ T m sc, K T m sc → K0 T m) → opers pA cf l T m K0
 | [], _, _, _, _, hr, _, hK => hK _ _ _ hr
 | o :: os, T, m, sc, K, hr, K0, hK => by
  obtain ⟨sc', hr⟩ := zBL sc hr
  simp only [opers]
  cases e : zAT o T with
  | true =>
   rw [e] at hr
   simp only [cond_true] at hr ⊢
   exact zFC h hr fun v m sc hk => zFB h os hk hK
  | false =>
   rw [e] at hr
   simp only [cond_false] at hr ⊢
   exact zFB h os hr hK
theorem zCH (h : CFPOk cfp cf) : ∀ (t : DT) {T : zAa} {m : Mem} {sc : Sc} {K : zAa → Mem → Sc → Prop}, zE7 cfp t T m sc K → ∀ {K0 : zAa → Mem → Prop}, (∀ T m sc, K T m sc → K0 T m) → drawn pA cf t T m K0
 | .fin, _, _, _, _, hr, _, hK => hK _ _ _ hr
 | .calm o t, T, m, sc, K, hr, K0, hK => by
  obtain ⟨sc', hr⟩ := zBL sc hr
  simp only [drawn]
  cases e : zAT o T with
  | true =>
   rw [e] at hr
   simp only [cond_true] at hr ⊢
   cases e2 : freshB m o.op with
   | true =>
    rw [e2] at hr
    simp only [cond_true] at hr ⊢
    exact zFC h hr fun v m sc hk => zCH h t hk hK
   | false => rw [e2] at hr; exact hr.elim
  | false =>
   rw [e] at hr
   simp only [cond_false] at hr ⊢
   exact zCH h t hr hK
 | .last d t, T, m, sc, K, hr, K0, hK => by
  obtain ⟨sc', hr⟩ := zBL sc hr
  simp only [drawn]
  cases e : zAT d.o T with
  | true =>
   rw [e] at hr
   simp only [cond_true] at hr ⊢
   refine zFC h hr fun v m' sc hk => ?_
   rw [zH3 hk.1, cond_true]
   exact zCH h t hk.2 hK
  | false =>
   rw [e] at hr
   simp only [cond_false] at hr ⊢
   exact zCH h t hr hK
 | .fork d t o, T, m, sc, K, hr, K0, hK => by
  simp only [zE7] at hr
  split at hr
  ·rename_i sa sb
   obtain ⟨h1, h2⟩ := hr
   refine ⟨?_, zCH h o h2 hK⟩
   obtain ⟨sc', hr⟩ := zBL sa h1
   cases e : zAT d.o T with
   | true =>
    rw [e] at hr
    simp only [cond_true] at hr ⊢
    refine zFC h hr fun v m' sc hk => ?_
    rw [zH3 hk.1, cond_true]
    exact zCH h t hk.2 hK
   | false =>
    rw [e] at hr
    simp only [cond_false] at hr ⊢
    exact zCH h t hr hK
  ·exact hr.elim
theorem iterP_ok {body : zAa → Mem → Sc → (Ex → zAa → Mem → Sc → Prop) → Prop} {body0 : zAa → Mem → (Ex → zAa → Mem → Prop) → Prop}
  (hb : ∀ (T : zAa) (m : Mem) (sc : Sc) (K : Ex → zAa → Mem → Sc → Prop), body T m sc K → ∀ (K0 : Ex → zAa → Mem → Prop), (∀ e T m sc, K e T m sc → K0 e T m) → body0 T m K0) :
  ∀ (n : Nat) {T : zAa} {m : Mem} {sc : Sc} {K : Ex → zAa → Mem → Sc → Prop}, iterP body n T m sc K → ∀ {K0 : Ex → zAa → Mem → Prop}, (∀ e T m sc, K e T m sc → K0 e T m) → iter pA body0 n T m K0
 | 0, _, _, _, _, hr, _, _ => hr.elim
 | n + 1, T, m, sc, K, hr, K0, hK => by
  simp only [iterP] at hr
  simp only [iter]
  refine hb _ _ _ _ hr _ fun e T' m' sc' hk => ?_
  cases e with
  | normal => exact iterP_ok hb n hk hK
  | exit id => exact hK _ _ _ _ hk
  | ret => exact hK _ _ _ _ hk
theorem zCV {cfy : Ys Prop → CF Prop} {Y : Ys Prop} (h : CFPOk cfp (cfy Y)) :
  ∀ (c : zAz) {T : zAa} {m : Mem} {sc : Sc} {K : Ex → zAa → Mem → Sc → Prop}, zHO cfp cfy c T m sc K → ∀ {K0 : Ex → zAa → Mem → Prop}, (∀ e T m sc, K e T m sc → K0 e T m) → code pA cfy Y c T m K0
 | .skip, _, _, _, _, hr, _, hK => hK _ _ _ _ hr
 | .ops l, _, _, _, _, hr, _, hK => by
  simp only [code]
  exact zFB h l hr fun T m sc hk => hK _ _ _ _ hk
 | .draw l s, _, _, _, _, hr, _, hK => by
  simp only [code]
  exact zCH h l hr fun T m sc hk => zFB h s hk fun T m sc hk => hK _ _ _ _ hk
 | .seq a b, T, m, sc, K, hr, K0, hK => by
  simp only [code]
  refine zCV h a hr fun e T' m' sc' hk => ?_
  cases e with
  | normal => exact zCV h b hk hK
  | exit id => exact hK _ _ _ _ hk
  | ret => exact hK _ _ _ _ hk
 | .cond c a b, T, m, sc, K, hr, K0, hK => by
  obtain ⟨sc', hr⟩ := zBL sc hr
  simp only [code]
  split at hr
  ·rename_i e; simp only [e]; exact zCV h a hr hK
  ·rename_i e; simp only [e]; exact zCV h b hr hK
  ·exact hr.elim
 | .block id b, T, m, sc, K, hr, K0, hK => by
  simp only [code]
  refine zCV h b hr fun e T' m' sc' hk => ?_
  cases e with
  | normal => exact hK _ _ _ _ hk
  | exit j =>
   cases e2 : Nat.beq j id with
   | true => simp only [e2, cond_true] at hk ⊢; exact hK _ _ _ _ hk
   | false => simp only [e2, cond_false] at hk ⊢; exact hK _ _ _ _ hk
  | ret => exact hK _ _ _ _ hk
 | .loop b, T, m, sc, K, hr, K0, hK => by
  obtain ⟨sc', hr⟩ := zBL sc hr
  simp only [code]
  split at hr
  ·rename_i e I J sc''
   obtain ⟨h1, h2, h3⟩ := hr
   exact h2 Y T m h1 K0 fun T' hj => hK _ _ _ _ (h3 T' hj)
  ·obtain ⟨rfl, h1, h2, h3⟩ := hr
   exact h2 Y T h1 K0 fun T' hj => hK _ _ _ _ (h3 T' hj)
  ·obtain ⟨rfl, h1, h2, h3⟩ := hr
   refine h2 Y T h1 K0 fun x hx T' hj => ?_
   have h4 := h3 x hx T' hj
   rw [zFw hj] at h4
   exact hK _ _ _ _ h4
  ·exact iterP_ok (body := zHO cfp cfy b) (fun _ _ _ _ hr' _ hK' => zCV h b hr' hK') rounds hr hK
 | .exit id, _, _, _, _, hr, _, hK => hK _ _ _ _ hr
 | .ret, _, _, _, _, hr, _, hK => hK _ _ _ _ hr
 | .rangeFunc _ _ _ _, _, _, _, _, hr, _, _ => hr.elim
theorem zJk {cfy : Ys Prop → CF Prop} {Y : Ys Prop} (h : CFPOk cfp (cfy Y)) {f : zAr} {args : List V} {m : Mem} {sc : Sc} {K : V → Mem → Sc → Prop} (hr : bodyP cfp cfy f args m sc K) {K0 : V → Mem → Prop} (hK : ∀ v m sc, K v m sc → K0 v m) : zAD pA cfy Y f args m K0 := by
 unfold bodyP at hr
 unfold zAD
 cases e : Nat.ble args.length f.nt with
 | false => rw [e] at hr; exact hr.elim
 | true =>
  rw [e] at hr
  simp only [cond_true] at hr ⊢
  refine zCV h f.body hr fun e T m' sc' hk => ?_
  cases e with
  | exit id => exact hk.elim
  | normal =>
   simp only at hk ⊢
   split at hk
   ·rename_i e; simp only [e]; exact hK _ _ _ hk
   ·exact hk.elim
  | ret =>
   simp only at hk ⊢
   split at hk
   ·rename_i e; simp only [e]; exact hK _ _ _ hk
   ·exact hk.elim
theorem zI2 {last : CF Prop} (hl : zBi last) : CFPOk (lastP last) last := by
 intro f args m sc K h K0 hK
 unfold lastP at h
 split at h
 ·rename_i L sc'
  obtain ⟨h1, h2⟩ := h
  rw [h1]
  cases L with
  | plain v => exact hK _ _ _ h2
  | new hd rest o => exact hK _ _ _ h2
 ·obtain ⟨h1, h2, h3, h4, h5, h6⟩ := h
  exact h1 m K0 (conAt_of h2 h3 h4 h5) (hK _ _ _ h6)
 ·obtain ⟨h1, h2, h3, h4⟩ := h
  exact h1 m K0 h2 (fun x hx => by obtain ⟨a, b, c, d⟩ := h3 x hx; exact conAt_of a b c d) (fun x hx => hK _ _ _ (h4 x hx))
 ·obtain ⟨rfl, h1, h2⟩ := h
  exact h1 K0 (hK _ _ _ h2)
 ·exact hl _ _ _ _ _ (fun v m hk => hK v m _ hk) h
theorem zFX {tab : Nat → Option zAr} {last : CF Prop} (hl : zBi last) : ∀ (d : Nat) (Y : Ys Prop), CFPOk (callP tab last d) (zAt pA tab last d Y)
 | 0, Y => zI2 hl
 | d + 1, Y => by
  intro f args m sc K h K0 hK
  simp only [callP] at h
  simp only [zAt]
  split at h
  ·rename_i g cap
   split at h
   ·rename_i af e
    simp only [e]
    exact zJk (zFX hl d Y) h hK
   ·rename_i e
    simp only [e]
    exact zI2 hl _ _ _ _ _ h _ hK
  ·exact h.elim
  ·rename_i hn1 hn2
   split
   ·rename_i g cap; exact absurd rfl (hn1 g cap)
   ·rename_i l; exact absurd rfl (hn2 l)
   ·exact zI2 hl _ _ _ _ _ h _ hK
end
theorem zAc : zBi (fun _ _ _ _ => False) := fun _ _ _ _ _ _ h => h
theorem zAb {n : Nat} {S : List V → Option V} {last : CF Prop} (hl : zBi last) : zBi (zAi n S last) := by
 intro f args m K K' hk h
 unfold zAi at h ⊢
 split at h
 ·rename_i g
  cases e : Nat.beq g n with
  | true =>
   simp only [e, cond_true] at h ⊢
   split at h
   ·exact hk _ _ h
   ·exact hl _ _ _ _ _ hk h
  | false => simp only [e, cond_false] at h ⊢; exact hl _ _ _ _ _ hk h
 ·exact hl _ _ _ _ _ hk h
theorem mono_w {n : Nat} {last : CF Prop} (hl : zBi last) : zBi (zC8 n last) := by
 intro f args m K K' hk h
 unfold zC8 at h ⊢
 split at h
 ·rename_i g
  cases e : Nat.beq g n with
  | true => simp only [e, cond_true] at h ⊢; exact hk _ _ h
  | false => simp only [e, cond_false] at h ⊢; exact hl _ _ _ _ _ hk h
 ·exact hl _ _ _ _ _ hk h
theorem zIa {tab : Nat → Option zAr} {last : CF Prop} (hl : zBi last) {d : Nat} {af : zAr} {args : List V} {m : Mem} {v : V} (sc : Sc) (h : bodyP (callP tab last d) (zAt pA tab last d) af args m sc fun u _ _ => u = v) (Y : Ys Prop) (K : V → Mem → Prop) (hK : ∀ m, K v m) : zAD pA (zAt pA tab last d) Y af args m K :=
 zJk (zFX hl d Y) h fun u m' _ e => by subst e; exact hK m'
theorem zAf {tab : Nat → Option zAr} {last : CF Prop} (hl : zBi last) {d : Nat} {c : zAz} {T : zAa} {m M : Mem} {E : Ex} {l : List (Sl × V)} (sc : Sc) {VC : Prop} (vc : VC) (e : VC = zHO (callP tab last d) (zAt pA tab last d) c T m sc fun e T' m' _ => zDy E M l e T' m') (Y : Ys Prop)
  (K : Ex → zAa → Mem → Prop) (hK : ∀ T', zAG T' l → K E T' M) : code pA (zAt pA tab last d) Y c T m K :=
 zCV (zFX hl d Y) c (e ▸ vc) fun e T' m' _ h => by obtain ⟨rfl, rfl, h⟩ := h; exact hK T' h
def endR (s : Sl) (v : V) (e : Ex) (T : zAa) (m : Mem) : Prop := e = .ret ∧ T.get s = v
theorem zHN {tab : Nat → Option zAr} {last : CF Prop} (hl : zBi last) {d : Nat} {c : zAz} {T : zAa} {m : Mem} {s : Sl} {v : V} (sc : Sc) {VC : Prop} (vc : VC) (e : VC = zHO (callP tab last d) (zAt pA tab last d) c T m sc fun e T' m' _ => endR s v e T' m') (Y : Ys Prop)
  (K : Ex → zAa → Mem → Prop) (hK : ∀ T' m', T'.get s = v → K .ret T' m') : code pA (zAt pA tab last d) Y c T m K :=
 zCV (zFX hl d Y) c (e ▸ vc) fun e T' m' _ h => by obtain ⟨rfl, h⟩ := h; exact hK T' m' h
theorem loop2 {cfy : Ys Prop → CF Prop} {b : zAz} {x : Nat} {M1 : Mem} {l1 : List (Sl × V)} (n : Nat) (hn : n < rounds) (M : Nat → Mem) (l : Nat → List (Sl × V))
  (step : ∀ (Y : Ys Prop) (i : Nat) (T : zAa), i < n → zAG T (l i) → ∀ K : Ex → zAa → Mem → Prop, (∀ T', zAG T' (l (i + 1)) → K .normal T' (M (i + 1))) → code pA cfy Y b T (M i) K)
  (fin : ∀ (Y : Ys Prop) (T : zAa), zAG T (l n) → ∀ K : Ex → zAa → Mem → Prop, (∀ T', zAG T' l1 → K (.exit x) T' M1) → code pA cfy Y b T (M n) K) : zDc cfy b (.exit x) (M 0) (l 0) M1 l1 := by
 intro Y T h0 K hK
 have go : ∀ (k i : Nat) (fuel : Nat), i + k = n → k < fuel → ∀ T, zAG T (l i) → iter pA (code pA cfy Y b) fuel T (M i) K := by
  intro k
  induction k with
  | zero =>
   intro i fuel hi hf T hT
   obtain ⟨f, rfl⟩ : ∃ f, fuel = f + 1 := ⟨fuel - 1, by omega⟩
   simp only [iter]
   have e : i = n := by omega
   subst e
   exact fin Y T hT _ fun T' h => hK T' h
  | succ k ih =>
   intro i fuel hi hf T hT
   obtain ⟨f, rfl⟩ : ∃ f, fuel = f + 1 := ⟨fuel - 1, by omega⟩
   simp only [iter]
   exact step Y i T (by omega) hT _ fun T' h => ih (i + 1) f (by omega) (by omega) T' h
 exact go n 0 rounds (by omega) hn T h0
end Go.AM
