/- An abstract machine: an addition. No condition. -/
import Derived.Test.YtblblhfgpcgheaaAM38
import Derived.Test.YtblblhfgpcgheaaAMb
namespace Go.AM
open Go
inductive Sc where
 | nil
 | wait (n : Nat) (sc : Sc)
 | fix (s : Sl) (v : V) (sc : Sc)
 | fixM (b : Nat) (o : AObj) (sc : Sc)
 | split (s : Sl) (x : Bool) (a b : Sc)
 | inv (e : Ex) (I J : Slots → Prop) (sc : Sc)
 | res (v : V) (sc : Sc)
 | grow (s x : Opd) (sz bytes b off len cap : Nat) (cs : List V) (n : Nat) (new all : List V) (sc : Sc)
 | mset (kt : KT) (mp k x : Opd) (b : Nat) (es : List (V × V × Nat)) (c : Nat) (es' : List (V × V × Nat)) (sc : Sc)
 | ment (kt : KT) (zero : V) (mp k : Opd) (b : Nat) (es : List (V × V × Nat)) (c : Nat) (v : V) (es' : List (V × V × Nat)) (c' : Nat) (sc : Sc)
 | esto (mp s x : Opd) (b : Nat) (es : List (V × V × Nat)) (c st : Nat) (es' : List (V × V × Nat)) (sc : Sc)
 | mput (kt : KT) (mp k x : Opd) (b : Nat) (es : List (V × V × Nat)) (c : Nat) (es' : List (V × V × Nat)) (c' : Nat) (sc : Sc)
 | mdel (kt : KT) (mp k : Opd) (b : Nat) (es : List (V × V × Nat)) (c : Nat) (es' : List (V × V × Nat)) (sc : Sc)
 | inv2 (e : Ex) (M0 : Mem) (l0 : List (Sl × V)) (M1 : Mem) (l1 : List (Sl × V)) (sc : Sc)
 | inv3 (e : Ex) (M0 : Mem) (l0 : List (Sl × V)) (Q : List (V × V × Nat) → Prop) (M1 : List (V × V × Nat) → Mem) (l1 : List (V × V × Nat) → List (Sl × V)) (sc : List (V × V × Nat) → Sc)
 | invd (e : Ex) (M0 : Mem) (l0 : List (Sl × V)) (Q : List (V × V × Nat) → Prop) (M1 : List (V × V × Nat) → Mem) (l1 : List (V × V × Nat) → List (Sl × V)) (sc : List (V × V × Nat) → Sc)
 | lay (L : Lay) (sc : Sc)
 | con (C : Con) (l : List Nat) (sc : Sc)
 | conq (Q : EnL → Prop) (C : EnL → Con) (l : List Nat) (sc : EnL → Sc)
 | cal (v : V) (M0 M1 : Mem) (sc : Sc)
 | sto (n : Nat) (a x : Opd) (b off : Nat) (cs r : List V) (sc : Sc)
 | fork (a b : Sc)
def tickP : Sc → Slots → Mem → (Sc → Slots → Mem → Prop) → Prop
 | .wait (n + 1) sc, T, m, K => K (.wait n sc) T m
 | .wait 0 sc, T, m, K => tickP sc T m K
 | .fix s v sc, T, m, K => T.get s = v ∧ tickP sc (T.set v s) m K
 | .fixM b o sc, T, m, K => m.get b = some o ∧ tickP sc T (m.set b o) K
 | .split s x a b, T, m, K => T.get s = .bool x ∧ (x = true → tickP a (T.set (.bool true) s) m K) ∧ (x = false → tickP b (T.set (.bool false) s) m K)
 | sc, T, m, K => K sc T m
theorem D8.upd_sel {α : Type} (d : D8) (n : N8 α) : d.upd (fun _ => d.sel n) n = n := by
 obtain ⟨a0, a1, a2, a3, a4, a5, a6, a7⟩ := n
 cases d <;> rfl
theorem D8.upd_congr {α : Type} (d : D8) (f : α → α) (n : N8 α) (x : α) (h : f (d.sel n) = x) : d.upd f n = d.upd (fun _ => x) n := by
 obtain ⟨a0, a1, a2, a3, a4, a5, a6, a7⟩ := n
 subst h
 cases d <;> rfl
theorem Slots.set_self (T : Slots) (s : Sl) : T.set (T.get s) s = T := by
 obtain ⟨a, b, c⟩ := s
 simp only [Slots.set, Slots.get]
 rw [D8.upd_congr a _ T (a.sel T) ?_, D8.upd_sel]
 rw [D8.upd_congr b _ (a.sel T) (b.sel (a.sel T)) ?_, D8.upd_sel]
 exact D8.upd_sel c _
theorem Tree.set_self : ∀ (t : Tree) (n : Nat) (o : AObj), t.get n = some o → t.set o n = t
 | .leaf, n, o, h => by cases h
 | .node v l r, n, o, h => by
  simp only [Tree.get] at h
  simp only [Tree.set]
  cases e : Nat.beq n 0 with
  | true => rw [e] at h; simp only [cond_true] at h ⊢; rw [h]
  | false =>
   rw [e] at h
   simp only [cond_false] at h ⊢
   cases e2 : Nat.beq (n % 2) 1 with
   | true => rw [e2] at h; simp only [cond_true] at h ⊢; rw [Tree.set_self l _ _ h]
   | false => rw [e2] at h; simp only [cond_false] at h ⊢; rw [Tree.set_self r _ _ h]
theorem Mem.set_self {m : Mem} {b : Nat} {o : AObj} (h : m.get b = some o) : m.set b o = m := by
 unfold Mem.set
 rw [Tree.set_self m.t b o h]
theorem tickP_out : ∀ (sc : Sc) {T : Slots} {m : Mem} {K : Sc → Slots → Mem → Prop}, tickP sc T m K → ∃ sc', K sc' T m
 | .nil, _, _, _, h => ⟨_, h⟩
 | .wait (n + 1) sc, _, _, _, h => ⟨_, h⟩
 | .wait 0 sc, _, _, _, h => tickP_out sc h
 | .fix s v sc, T, m, K, h => by
  obtain ⟨rfl, h⟩ := h
  rw [Slots.set_self] at h
  exact tickP_out sc h
 | .fixM b o sc, T, m, K, h => by
  obtain ⟨h1, h⟩ := h
  rw [Mem.set_self h1] at h
  exact tickP_out sc h
 | .split s x a b, T, m, K, h => by
  obtain ⟨h1, h2, h3⟩ := h
  have e := Slots.set_self T s
  rw [h1] at e
  cases x with
  | true =>
   have := h2 rfl
   rw [e] at this
   exact tickP_out a this
  | false =>
   have := h3 rfl
   rw [e] at this
   exact tickP_out b this
 | .inv e I J sc, _, _, _, h => ⟨_, h⟩
 | .res v sc, _, _, _, h => ⟨_, h⟩
 | .sto n a x b off cs r sc, _, _, _, h => ⟨_, h⟩
 | .lay L sc, _, _, _, h => ⟨_, h⟩
 | .con C l sc, _, _, _, h => ⟨_, h⟩
 | .conq Q C l sc, _, _, _, h => ⟨_, h⟩
 | .cal v M0 M1 sc, _, _, _, h => ⟨_, h⟩
 | .inv2 e M0 l0 M1 l1 sc, _, _, _, h => ⟨_, h⟩
 | .inv3 e M0 l0 Q M1 l1 sc, _, _, _, h => ⟨_, h⟩
 | .invd e M0 l0 Q M1 l1 sc, _, _, _, h => ⟨_, h⟩
 | .mset kt mp k x b es c es' sc, _, _, _, h => ⟨_, h⟩
 | .ment kt zero mp k b es c v es' c' sc, _, _, _, h => ⟨_, h⟩
 | .esto mp s x b es c st es' sc, _, _, _, h => ⟨_, h⟩
 | .mput kt mp k x b es c es' c' sc, _, _, _, h => ⟨_, h⟩
 | .mdel kt mp k b es c es' sc, _, _, _, h => ⟨_, h⟩
 | .grow s x sz bytes b off len cap cs n new all sc, _, _, _, h => ⟨_, h⟩
 | .fork a b, _, _, _, h => ⟨_, h⟩
def V.reflS : V → Bool
 | .bool _ | .int _ _ | .str _ | .ptr _ _ | .nilptr | .slice _ _ _ _ _ | .nilslice | .map _ | .nilmap | .nilfunc | .niliface => true
 | _ => false
def allRefl : List V → Bool
 | [] => true
 | v :: l => v.reflS && allRefl l
def V.refl1 : V → Bool
 | .agg l => allRefl l
 | .tuple l => allRefl l
 | v => v.reflS
def eRefl : List (V × V × Nat) → Bool
 | [] => true
 | (k, v, _) :: l => k.refl1 && v.refl1 && eRefl l
def AObj.refl1 : AObj → Bool
 | .cells l _ => allRefl l
 | .map es _ _ => eRefl es
 | _ => false
theorem beqL_self : ∀ (l : List Nat), beqL l l = true
 | [] => rfl
 | a :: l => by simp only [beqL, Nat.beq_refl, beqL_self l, Bool.and_self]
theorem reflS_eqB : ∀ {v : V}, v.reflS = true → v.eqB v = true := by
 intro v h
 cases v <;> simp [V.reflS] at h <;> simp [V.eqB, Nat.beq_refl, beqL_self]
theorem allRefl_eqBs : ∀ {l : List V}, allRefl l = true → eqBs l l = true
 | [], _ => rfl
 | v :: l, h => by
  simp only [allRefl, Bool.and_eq_true] at h
  simp only [eqBs, reflS_eqB h.1, allRefl_eqBs h.2, Bool.and_self]
theorem refl1_eqB1 : ∀ {v : V}, v.refl1 = true → v.eqB1 v = true := by
 intro v h
 cases v <;> simp only [V.refl1] at h
 case agg l => exact allRefl_eqBs h
 case tuple l => exact allRefl_eqBs h
 all_goals first | (simp [V.reflS] at h; done) | exact reflS_eqB h
theorem eRefl_eqEs : ∀ {l : List (V × V × Nat)}, eRefl l = true → eqEs l l = true
 | [], _ => rfl
 | (k, v, n) :: l, h => by
  simp only [eRefl, Bool.and_eq_true] at h
  simp only [eqEs, refl1_eqB1 h.1.1, refl1_eqB1 h.1.2, Nat.beq_refl, eRefl_eqEs h.2, Bool.and_self]
theorem AObj.refl1_eqB {o : AObj} (h : o.refl1 = true) : o.eqB o = true := by
 cases o <;> simp only [AObj.refl1] at h
 case cells l r => simp [AObj.eqB, allRefl_eqBs h]
 case map es c r => simp [AObj.eqB, eRefl_eqEs h, Nat.beq_refl]
 all_goals cases h
def again1P (T : Slots) (m m' : Mem) (o : AOper) : Prop :=
 bif wantedA o T then
  match o.op, o.dst with
  | .quiet _ f, some d => f T m' = some (T.get d) ∧ (T.get d).refl1 = true
  | .alloc _, some d => match T.get d with
   | .ptr b _ | .slice b _ _ _ _ | .map b => match m.get b, m'.get b with | some x, some y => x = y ∧ x.refl1 = true | _, _ => False
   | _ => False
  | _, _ => False
 else True
def againP (T : Slots) (m m' : Mem) : List AOper → Prop
 | [] => True
 | o :: os => again1P T m m' o ∧ againP T m m' os
theorem again1P_ok {T : Slots} {m m' : Mem} {o : AOper} (h : again1P T m m' o) : again1 T m m' o = true := by
 unfold again1P at h
 unfold again1
 cases e : wantedA o T with
 | false => rfl
 | true =>
  simp only [e, cond_true] at h ⊢
  split at h
  ·rename_i e1 e2
   simp only [e1, e2, h.1]
   exact refl1_eqB1 h.2
  ·rename_i e1 e2
   simp only [e1, e2]
   split at h
   ·rename_i e3
    simp only [e3]
    split at h
    ·rename_i e4 e5
     simp only [e4, e5]
     obtain ⟨rfl, h2⟩ := h
     exact AObj.refl1_eqB h2
    ·exact h.elim
   ·rename_i e3
    simp only [e3]
    split at h
    ·rename_i e4 e5
     simp only [e4, e5]
     obtain ⟨rfl, h2⟩ := h
     exact AObj.refl1_eqB h2
    ·exact h.elim
   ·rename_i e3
    simp only [e3]
    split at h
    ·rename_i e4 e5
     simp only [e4, e5]
     obtain ⟨rfl, h2⟩ := h
     exact AObj.refl1_eqB h2
    ·exact h.elim
   ·exact h.elim
  ·exact h.elim
theorem againP_ok {T : Slots} {m m' : Mem} : ∀ {l : List AOper}, againP T m m' l → l.all (again1 T m m') = true
 | [], _ => rfl
 | o :: os, ⟨h1, h2⟩ => by simp only [List.all_cons, again1P_ok h1, againP_ok h2, Bool.and_self]
def growV (sz bytes n : Nat) (new : List V) (off len cap : Nat) (cs : List V) : Option (List V) :=
 bif !Nat.beq n 0 && !Nat.ble (len + n) cap && small (len + n) bytes && allOne new then (match takeN (len * sz) (dropN off cs) with | some old => some (old ++ new) | none => none) else none
theorem growV_ok {sz bytes n : Nat} {new : List V} {b off len cap : Nat} {cs all : List V} (h : growV sz bytes n new off len cap cs = some all) {m : Mem} (hm : m.get b = some (.cells cs false)) : appCore sz bytes n new (.slice b off len cap sz) m = some (.slice m.next 0 (len + n) (len + n) sz, (m.set b .dead).new (.cells all false)) := by
 unfold growV at h
 obtain ⟨h1, h2⟩ := bif_some h
 simp only [Bool.and_eq_true, Bool.not_eq_true'] at h1
 obtain ⟨⟨⟨h3, h4⟩, h5⟩, h6⟩ := h1
 split at h2
 ·rename_i old ho
  cases h2
  simp only [appCore, h3, cond_false, Nat.beq_refl, cond_true, h4, h5, h6, Bool.and_self, hm, ho]
 ·cases h2
def mentV (kt : KT) (zero k : V) (es : List (V × V × Nat)) (c : Nat) : Option (V × List (V × V × Nat) × Nat) :=
 match findK kt k es with
 | some (some (i, v)) => match nth es i with
  | some e => some (.tuple [v, .int .i64 (.ofNat e.2.2)], es.modify i (fun e => (k, e.2)), c)
  | none => none
 | some none => some (.tuple [zero, .int .i64 (.ofNat c)], es ++ [(k, zero, c)], c + 1)
 | none => none
def estoV (st : Nat) (x : V) (es : List (V × V × Nat)) : Option (List (V × V × Nat)) :=
 match findB st es 0 with
 | some i => some (es.modify i fun e => (e.1, x, e.2.2))
 | none => none
theorem lMent_eq {kt : KT} {zero : V} {mp k : Opd} {T : Slots} {m : Mem} {b : Nat} {es es' : List (V × V × Nat)} {c c' : Nat} {v : V} (h1 : ev T mp = .map b) (h2 : m.get b = some (.map es c false)) (h3 : mentV kt zero (ev T k) es c = some (v, es', c')) : lMent kt zero mp k T m = some (v, m.set b (.map es' c' false)) := by
 simp only [lMent, h1, h2]
 unfold mentV at h3
 split at h3
 ·rename_i e1
  split at h3
  ·rename_i e2
   cases h3; simp only [e1, e2]
  ·cases h3
 ·rename_i e1
  cases h3; simp only [e1]
 ·cases h3
theorem lEsto_eq {mp s x : Opd} {T : Slots} {m : Mem} {b st : Nat} {es es' : List (V × V × Nat)} {c : Nat} (h1 : ev T mp = .map b) (hs : ev T s = .int .i64 ((st : Nat) : Int)) (h2 : m.get b = some (.map es c false)) (h3 : estoV st (ev T x) es = some es') : lEsto mp s x T m = some (.undef, m.set b (.map es' c false)) := by
 have hs' : ev T s = .int .i64 (.ofNat st) := hs
 simp only [lEsto, h1, hs', h2]
 unfold estoV at h3
 split at h3
 ·rename_i e1
  cases h3; simp only [e1]
 ·cases h3
def msetV (kt : KT) (k x : V) (es : List (V × V × Nat)) (c : Nat) : Option (List (V × V × Nat) × Nat) :=
 match findK kt k es with
 | some (some (i, _)) => some (es.modify i fun e => (k, x, e.2.2), c)
 | some none => some (es ++ [(k, x, c)], c + 1)
 | none => none
theorem lMput_eq {kt : KT} {mp k x : Opd} {T : Slots} {m : Mem} {b : Nat} {es es' : List (V × V × Nat)} {c c' : Nat} (h1 : ev T mp = .map b) (h2 : m.get b = some (.map es c false)) (h3 : msetV kt (ev T k) (ev T x) es c = some (es', c')) : lMset kt mp k x T m = some (.undef, m.set b (.map es' c' false)) := by
 simp only [lMset, h1, h2]
 unfold msetV at h3
 split at h3
 ·rename_i e1
  cases h3; simp only [e1]
 ·rename_i e1
  cases h3; simp only [e1]
 ·cases h3
def mdelV (kt : KT) (k : V) (es : List (V × V × Nat)) : Option (List (V × V × Nat)) :=
 match findK kt k es with
 | some (some (i, _)) => some (es.eraseIdx i)
 | _ => none
theorem lMdel_eq {kt : KT} {mp k : Opd} {T : Slots} {m : Mem} {b : Nat} {es es' : List (V × V × Nat)} {c : Nat} (h1 : ev T mp = .map b) (h2 : m.get b = some (.map es c false)) (h3 : mdelV kt (ev T k) es = some es') : lMdel kt mp k T m = some (.tuple [], m.set b (.map es' c false)) := by
 simp only [lMdel, h1, h2]
 unfold mdelV at h3
 split at h3
 ·rename_i e1
  cases h3; simp only [e1]
 ·cases h3
abbrev CFP := V → List V → Mem → Sc → (V → Mem → Sc → Prop) → Prop
section
variable (cfp : CFP)
def oper1P (o : AOp) (T : Slots) (m : Mem) (sc : Sc) (K : V → Mem → Sc → Prop) : Prop :=
 match o with
 | .quiet _ f => match sc with
  | .res v sc => f T m = some v ∧ K v m sc
  | sc => match f T m with | some v => K v m sc | none => False
 | .alloc f => match f T m.next with | some (v, ob) => K v (m.new ob) sc | none => False
 | .loud f => match sc with
  | .sto n a x b off cs r sc => f = lSto n a x ∧ ev T a = .ptr b off ∧ m.get b = some (.cells cs false) ∧ (ev T x).cells.length = n ∧ putAt (ev T x).cells off cs = some r ∧ K .undef (m.set b (.cells r false)) sc
  | .grow s x sz bytes b off len cap cs n new all sc => f = lApp sz bytes s x ∧ ev T s = .slice b off len cap sz ∧ strOk sz (ev T x) = true ∧ srcLen (ev T x) = some n ∧ srcCells m sz none (ev T x) = some new ∧ m.get b = some (.cells cs false) ∧ growV sz bytes n new off len cap cs = some all ∧
   K (.slice m.next 0 (len + n) (len + n) sz) ((m.set b .dead).new (.cells all false)) sc
  | .mset kt mp k x b es c es' sc => f = lMset kt mp k x ∧ ev T mp = .map b ∧ m.get b = some (.map es c false) ∧ findK kt (ev T k) es = some none ∧ es ++ [(ev T k, ev T x, c)] = es' ∧ K .undef (m.set b (.map es' (c + 1) false)) sc
  | .ment kt zero mp k b es c v es' c' sc => f = lMent kt zero mp k ∧ ev T mp = .map b ∧ m.get b = some (.map es c false) ∧ mentV kt zero (ev T k) es c = some (v, es', c') ∧ K v (m.set b (.map es' c' false)) sc
  | .esto mp s x b es c st es' sc => f = lEsto mp s x ∧ ev T mp = .map b ∧ ev T s = .int .i64 ((st : Nat) : Int) ∧ m.get b = some (.map es c false) ∧ estoV st (ev T x) es = some es' ∧ K .undef (m.set b (.map es' c false)) sc
  | .mput kt mp k x b es c es' c' sc => f = lMset kt mp k x ∧ ev T mp = .map b ∧ m.get b = some (.map es c false) ∧ msetV kt (ev T k) (ev T x) es c = some (es', c') ∧ K .undef (m.set b (.map es' c' false)) sc
  | .mdel kt mp k b es c es' sc => f = lMdel kt mp k ∧ ev T mp = .map b ∧ m.get b = some (.map es c false) ∧ mdelV kt (ev T k) es = some es' ∧ K (.tuple []) (m.set b (.map es' c false)) sc
  | sc => match f T m with | some (v, m') => K v m' sc | none => False
 | .next it => match nextS m (ev T it) with | some [(v, m')] => K v m' sc | _ => False
 | .call f args => cfp (ev T f) (Opd.evs T args) m sc K
def opersP : List AOper → Slots → Mem → Sc → (Slots → Mem → Sc → Prop) → Prop
 | [], T, m, sc, K => K T m sc
 | o :: os, T, m, sc, K => tickP sc T m fun sc T m =>
  bif wantedA o T then oper1P cfp o.op T m sc fun v m' sc => opersP os (putD o.dst v T) m' sc K
  else opersP os (putD o.dst .undef T) m sc K
def drawnP : DT → Slots → Mem → Sc → (Slots → Mem → Sc → Prop) → Prop
 | .fin, T, m, sc, K => K T m sc
 | .calm o t, T, m, sc, K => tickP sc T m fun sc T m =>
  bif wantedA o T then
   bif freshB m o.op then oper1P cfp o.op T m sc fun v m' sc => drawnP t (putD o.dst v T) m' sc K else False
  else drawnP t (putD o.dst .undef T) m sc K
 | .last d t, T, m, sc, K => tickP sc T m fun sc T m =>
  bif wantedA d.o T then oper1P cfp d.o.op T m sc fun v m' sc =>
   againP T m m' d.again ∧ drawnP t (putD d.o.dst v T) m' sc K
  else drawnP t (putD d.o.dst .undef T) m sc K
 | .fork d t o, T, m, sc, K => match sc with
  | .fork sa sb =>
   (tickP sa T m fun sc T m => bif wantedA d.o T then oper1P cfp d.o.op T m sc fun v m' sc =>
    againP T m m' d.again ∧ drawnP t (putD d.o.dst v T) m' sc K
   else drawnP t (putD d.o.dst .undef T) m sc K) ∧ drawnP o T m sb K
  | _ => False
def iterP (body : Slots → Mem → Sc → (Ex → Slots → Mem → Sc → Prop) → Prop) : Nat → Slots → Mem → Sc → (Ex → Slots → Mem → Sc → Prop) → Prop
 | 0, _, _, _, _ => False
 | n + 1, T, m, sc, K => body T m sc fun e T' m' sc => match e with
  | .normal => iterP body n T' m' sc K
  | e => K e T' m' sc
def LoopOk (cfy : Ys Prop → CF Prop) (b : ACode) (e : Ex) (I J : Slots → Prop) : Prop :=
 ∀ (Y : Ys Prop) (T : Slots) (m : Mem), I T → ∀ K : Ex → Slots → Mem → Prop, (∀ T', J T' → K e T' m) → iter pA (code pA cfy Y b) rounds T m K
def allS (T : Slots) : List (Sl × V) → Prop
 | [] => True
 | (s, v) :: l => T.get s = v ∧ allS T l
def LoopOk2 (cfy : Ys Prop → CF Prop) (b : ACode) (e : Ex) (M0 : Mem) (l0 : List (Sl × V)) (M1 : Mem) (l1 : List (Sl × V)) : Prop :=
 ∀ (Y : Ys Prop) (T : Slots), allS T l0 → ∀ K : Ex → Slots → Mem → Prop, (∀ T', allS T' l1 → K e T' M1) → iter pA (code pA cfy Y b) rounds T M0 K
def setS : List (Sl × V) → Slots → Slots
 | [], T => T
 | (s, v) :: l, T => setS l (T.set v s)
theorem setS_self : ∀ {l : List (Sl × V)} {T : Slots}, allS T l → setS l T = T
 | [], _, _ => rfl
 | (s, v) :: l, T, ⟨h1, h2⟩ => by
  subst h1
  simp only [setS, Slots.set_self]
  exact setS_self h2
def LoopOk3 (cfy : Ys Prop → CF Prop) (b : ACode) (e : Ex) (M0 : Mem) (l0 : List (Sl × V)) (Q : List (V × V × Nat) → Prop) (M1 : List (V × V × Nat) → Mem) (l1 : List (V × V × Nat) → List (Sl × V)) : Prop :=
 ∀ (Y : Ys Prop) (T : Slots), allS T l0 → ∀ K : Ex → Slots → Mem → Prop, (∀ x, Q x → ∀ T', allS T' (l1 x) → K e T' (M1 x)) → iter pA (code pA cfy Y b) rounds T M0 K
def endS (E : Ex) (M : Mem) (l : List (Sl × V)) (e : Ex) (T : Slots) (m : Mem) : Prop := e = E ∧ m = M ∧ allS T l
def treeL : List (Nat × AObj) → Tree → Tree
 | [], t => t
 | (b, o) :: l, t => treeL l (t.set o b)
def memL (n : Nat) (l : List (Nat × AObj)) : Mem := ⟨n, treeL l .leaf⟩
variable (cfy : Ys Prop → CF Prop)
def codeP : ACode → Slots → Mem → Sc → (Ex → Slots → Mem → Sc → Prop) → Prop
 | .skip, T, m, sc, K => K .normal T m sc
 | .ops l, T, m, sc, K => opersP cfp l T m sc fun T m sc => K .normal T m sc
 | .draw l s, T, m, sc, K => drawnP cfp l T m sc fun T m sc => opersP cfp s T m sc fun T m sc => K .normal T m sc
 | .seq a b, T, m, sc, K => codeP a T m sc fun e T' m' sc => match e with
  | .normal => codeP b T' m' sc K
  | e => K e T' m' sc
 | .cond c a b, T, m, sc, K => tickP sc T m fun sc T m => match ev T c with
  | .bool true => codeP a T m sc K
  | .bool false => codeP b T m sc K
  | _ => False
 | .block id b, T, m, sc, K => codeP b T m sc fun e T' m' sc => match e with
  | .exit j => bif Nat.beq j id then K .normal T' m' sc else K e T' m' sc
  | e => K e T' m' sc
 | .loop b, T, m, sc, K => tickP sc T m fun sc T m => match sc with
  | .inv e I J sc => I T ∧ LoopOk cfy b e I J ∧ ∀ T', J T' → K e T' m sc
  | .inv2 e M0 l0 M1 l1 sc => m = M0 ∧ allS T l0 ∧ LoopOk2 cfy b e M0 l0 M1 l1 ∧ ∀ T', allS T' l1 → K e T' M1 sc
  | .inv3 e M0 l0 Q M1 l1 sc => m = M0 ∧ allS T l0 ∧ LoopOk3 cfy b e M0 l0 Q M1 l1 ∧ ∀ x, Q x → ∀ T', allS T' (l1 x) → K e (setS (l1 x) T') (M1 x) (sc x)
  | sc => iterP (codeP b) rounds T m sc K
 | .exit id, T, m, sc, K => K (.exit id) T m sc
 | .ret, T, m, sc, K => K .ret T m sc
 | .rangeFunc _ _ _ _, _, _, _, _ => False
def bodyP (f : AFunc) (args : List V) (m : Mem) (sc : Sc) (K : V → Mem → Sc → Prop) : Prop :=
 bif Nat.ble args.length f.nt then
  codeP cfp cfy f.body (fillS 0 args slots0) m sc fun e T m' sc => match e with
   | .exit _ => False
   | _ => match result f T m' with | some v => K v m' sc | none => False
 else False
end
def capOf : V → List V
 | .func _ _ cap => cap
 | _ => []
def CalOk (last : CF Prop) (f : V) (args : List V) (M0 : Mem) (v : V) (M1 : Mem) : Prop := ∀ K : V → Mem → Prop, K v M1 → last f args M0 K
theorem calE {last : CF Prop} {f : V} {a b : List V} {M0 M1 : Mem} {v : V} (e : a = b) (h : CalOk last f b M0 v M1) : CalOk last f a M0 v M1 := e ▸ h
def lastP (last : CF Prop) : CFP := fun f args m sc K =>
 match sc with
 | .lay L sc => (∀ (m' : Mem) (K' : V → Mem → Prop), last f args m' K' = L.go m' K') ∧ L.go m fun v m => K v m sc
 | .con C l sc => (∀ (m' : Mem) (K' : V → Mem → Prop), ConAt C (nthD l) (args ++ capOf f) m' → K' (C.ans.ren (C.tau (nthD l) m'.next)) (C.mem (nthD l) m') → last f args m' K') ∧ C.wf = true ∧ (nodupL l && Nat.beq l.length C.pre.length) = true ∧ args ++ capOf f = rens (nthD l) C.args ∧ preOk (nthD l) m 0 C.pre ∧
  K (C.ans.ren (C.tau (nthD l) m.next)) (C.mem (nthD l) m) sc
 | .conq Q C l sc => (∀ (m' : Mem) (K' : V → Mem → Prop), (∃ x, Q x) → (∀ x, Q x → ConAt (C x) (nthD l) args m') → (∀ x, Q x → K' ((C x).ans.ren ((C x).tau (nthD l) m'.next)) ((C x).mem (nthD l) m')) → last f args m' K') ∧ (∃ x, Q x) ∧
  (∀ x, Q x → (C x).wf = true ∧ (nodupL l && Nat.beq l.length (C x).pre.length) = true ∧ args = rens (nthD l) (C x).args ∧ preOk (nthD l) m 0 (C x).pre) ∧ ∀ x, Q x → K ((C x).ans.ren ((C x).tau (nthD l) m.next)) ((C x).mem (nthD l) m) (sc x)
 | .cal v M0 M1 sc => m = M0 ∧ CalOk last f args M0 v M1 ∧ K v M1 sc
 | sc => last f args m fun v m => K v m sc
theorem fnE {a : Option V} {v : V} {m : Mem} {K : V → Mem → Prop} {x : Prop} : a = some v → (match a with | some v => K v m | none => x) = (Lay.plain v).go m K := fun h => by subst h; rfl
def callP (tab : Nat → Option AFunc) (last : CF Prop) : Nat → CFP
 | 0 => lastP last
 | d + 1 => fun f args m sc K => match f with
  | .func (.func g) [] cap => match tab g with
   | some af => bodyP (callP tab last d) (callD pA tab last d) af (args ++ cap) m sc K
   | none => lastP last (.func (.func g) [] cap) args m sc K
  | .yield _ => False
  | f => lastP last f args m sc K
def MonoCF (cf : CF Prop) : Prop := ∀ f args m (K K' : V → Mem → Prop), (∀ v m, K v m → K' v m) → cf f args m K → cf f args m K'
def CFPOk (cfp : CFP) (cf : CF Prop) : Prop := ∀ f args m sc (K : V → Mem → Sc → Prop), cfp f args m sc K → ∀ K0 : V → Mem → Prop, (∀ v m sc, K v m sc → K0 v m) → cf f args m K0
section
variable {cfp : CFP} {cf : CF Prop}
theorem oper1P_ok (h : CFPOk cfp cf) {o : AOp} {T : Slots} {m : Mem} {sc : Sc} {K : V → Mem → Sc → Prop} (hr : oper1P cfp o T m sc K) {K0 : V → Mem → Prop} (hK : ∀ v m sc, K v m sc → K0 v m) : oper1 pA cf o T m K0 := by
 cases o with
 | quiet r f =>
  simp only [oper1P, oper1] at *
  split at hr
  ·obtain ⟨e, hr⟩ := hr
   simp only [e]
   exact hK _ _ _ hr
  ·split at hr
   ·rename_i e
    simp only [e]
    exact hK _ _ _ hr
   ·exact hr.elim
 | alloc f =>
  simp only [oper1P, oper1] at *
  split at hr
  ·rename_i e
   simp only [e]
   exact hK _ _ _ hr
  ·exact hr.elim
 | loud f =>
  simp only [oper1P, oper1] at *
  split at hr
  ·obtain ⟨rfl, e1, e2, e3, e4, hr⟩ := hr
   simp only [lSto, e1, e3, Nat.beq_refl, cond_true, writeN, e2, e4]
   exact hK _ _ _ hr
  ·obtain ⟨rfl, e1, e2, e3, e4, e5, e6, hr⟩ := hr
   simp only [lApp, e1, e2, e3, e4, cond_true, growV_ok e6 e5]
   exact hK _ _ _ hr
  ·obtain ⟨rfl, e1, e2, e3, rfl, hr⟩ := hr
   simp only [lMset, e1, e2, e3]
   exact hK _ _ _ hr
  ·obtain ⟨rfl, e1, e2, e3, hr⟩ := hr
   simp only [lMent_eq e1 e2 e3]
   exact hK _ _ _ hr
  ·obtain ⟨rfl, e1, e2, e3, e4, hr⟩ := hr
   simp only [lEsto_eq e1 e2 e3 e4]
   exact hK _ _ _ hr
  ·obtain ⟨rfl, e1, e2, e3, hr⟩ := hr
   simp only [lMput_eq e1 e2 e3]
   exact hK _ _ _ hr
  ·obtain ⟨rfl, e1, e2, e3, hr⟩ := hr
   simp only [lMdel_eq e1 e2 e3]
   exact hK _ _ _ hr
  ·split at hr
   ·rename_i e
    simp only [e]
    exact hK _ _ _ hr
   ·exact hr.elim
 | next it =>
  simp only [oper1P, oper1] at *
  split at hr
  ·rename_i v m' e
   simp only [e, allR]
   exact hK _ _ _ hr
  ·exact hr.elim
 | call f args => exact h _ _ _ _ _ hr _ hK
theorem opersP_ok (h : CFPOk cfp cf) : ∀ (l : List AOper) {T : Slots} {m : Mem} {sc : Sc} {K : Slots → Mem → Sc → Prop}, opersP cfp l T m sc K → ∀ {K0 : Slots → Mem → Prop}, (∀ T m sc, K T m sc → K0 T m) → opers pA cf l T m K0
 | [], _, _, _, _, hr, _, hK => hK _ _ _ hr
 | o :: os, T, m, sc, K, hr, K0, hK => by
  obtain ⟨sc', hr⟩ := tickP_out sc hr
  simp only [opers]
  cases e : wantedA o T with
  | true =>
   rw [e] at hr
   simp only [cond_true] at hr ⊢
   exact oper1P_ok h hr fun v m sc hk => opersP_ok h os hk hK
  | false =>
   rw [e] at hr
   simp only [cond_false] at hr ⊢
   exact opersP_ok h os hr hK
theorem drawnP_ok (h : CFPOk cfp cf) : ∀ (t : DT) {T : Slots} {m : Mem} {sc : Sc} {K : Slots → Mem → Sc → Prop}, drawnP cfp t T m sc K → ∀ {K0 : Slots → Mem → Prop}, (∀ T m sc, K T m sc → K0 T m) → drawn pA cf t T m K0
 | .fin, _, _, _, _, hr, _, hK => hK _ _ _ hr
 | .calm o t, T, m, sc, K, hr, K0, hK => by
  obtain ⟨sc', hr⟩ := tickP_out sc hr
  simp only [drawn]
  cases e : wantedA o T with
  | true =>
   rw [e] at hr
   simp only [cond_true] at hr ⊢
   cases e2 : freshB m o.op with
   | true =>
    rw [e2] at hr
    simp only [cond_true] at hr ⊢
    exact oper1P_ok h hr fun v m sc hk => drawnP_ok h t hk hK
   | false => rw [e2] at hr; exact hr.elim
  | false =>
   rw [e] at hr
   simp only [cond_false] at hr ⊢
   exact drawnP_ok h t hr hK
 | .last d t, T, m, sc, K, hr, K0, hK => by
  obtain ⟨sc', hr⟩ := tickP_out sc hr
  simp only [drawn]
  cases e : wantedA d.o T with
  | true =>
   rw [e] at hr
   simp only [cond_true] at hr ⊢
   refine oper1P_ok h hr fun v m' sc hk => ?_
   rw [againP_ok hk.1, cond_true]
   exact drawnP_ok h t hk.2 hK
  | false =>
   rw [e] at hr
   simp only [cond_false] at hr ⊢
   exact drawnP_ok h t hr hK
 | .fork d t o, T, m, sc, K, hr, K0, hK => by
  simp only [drawnP] at hr
  split at hr
  ·rename_i sa sb
   obtain ⟨h1, h2⟩ := hr
   refine ⟨?_, drawnP_ok h o h2 hK⟩
   obtain ⟨sc', hr⟩ := tickP_out sa h1
   cases e : wantedA d.o T with
   | true =>
    rw [e] at hr
    simp only [cond_true] at hr ⊢
    refine oper1P_ok h hr fun v m' sc hk => ?_
    rw [againP_ok hk.1, cond_true]
    exact drawnP_ok h t hk.2 hK
   | false =>
    rw [e] at hr
    simp only [cond_false] at hr ⊢
    exact drawnP_ok h t hr hK
  ·exact hr.elim
theorem iterP_ok {body : Slots → Mem → Sc → (Ex → Slots → Mem → Sc → Prop) → Prop} {body0 : Slots → Mem → (Ex → Slots → Mem → Prop) → Prop}
  (hb : ∀ (T : Slots) (m : Mem) (sc : Sc) (K : Ex → Slots → Mem → Sc → Prop), body T m sc K → ∀ (K0 : Ex → Slots → Mem → Prop), (∀ e T m sc, K e T m sc → K0 e T m) → body0 T m K0) :
  ∀ (n : Nat) {T : Slots} {m : Mem} {sc : Sc} {K : Ex → Slots → Mem → Sc → Prop}, iterP body n T m sc K → ∀ {K0 : Ex → Slots → Mem → Prop}, (∀ e T m sc, K e T m sc → K0 e T m) → iter pA body0 n T m K0
 | 0, _, _, _, _, hr, _, _ => hr.elim
 | n + 1, T, m, sc, K, hr, K0, hK => by
  simp only [iterP] at hr
  simp only [iter]
  refine hb _ _ _ _ hr _ fun e T' m' sc' hk => ?_
  cases e with
  | normal => exact iterP_ok hb n hk hK
  | exit id => exact hK _ _ _ _ hk
  | ret => exact hK _ _ _ _ hk
theorem codeP_ok {cfy : Ys Prop → CF Prop} {Y : Ys Prop} (h : CFPOk cfp (cfy Y)) :
  ∀ (c : ACode) {T : Slots} {m : Mem} {sc : Sc} {K : Ex → Slots → Mem → Sc → Prop}, codeP cfp cfy c T m sc K → ∀ {K0 : Ex → Slots → Mem → Prop}, (∀ e T m sc, K e T m sc → K0 e T m) → code pA cfy Y c T m K0
 | .skip, _, _, _, _, hr, _, hK => hK _ _ _ _ hr
 | .ops l, _, _, _, _, hr, _, hK => by
  simp only [code]
  exact opersP_ok h l hr fun T m sc hk => hK _ _ _ _ hk
 | .draw l s, _, _, _, _, hr, _, hK => by
  simp only [code]
  exact drawnP_ok h l hr fun T m sc hk => opersP_ok h s hk fun T m sc hk => hK _ _ _ _ hk
 | .seq a b, T, m, sc, K, hr, K0, hK => by
  simp only [code]
  refine codeP_ok h a hr fun e T' m' sc' hk => ?_
  cases e with
  | normal => exact codeP_ok h b hk hK
  | exit id => exact hK _ _ _ _ hk
  | ret => exact hK _ _ _ _ hk
 | .cond c a b, T, m, sc, K, hr, K0, hK => by
  obtain ⟨sc', hr⟩ := tickP_out sc hr
  simp only [code]
  split at hr
  ·rename_i e; simp only [e]; exact codeP_ok h a hr hK
  ·rename_i e; simp only [e]; exact codeP_ok h b hr hK
  ·exact hr.elim
 | .block id b, T, m, sc, K, hr, K0, hK => by
  simp only [code]
  refine codeP_ok h b hr fun e T' m' sc' hk => ?_
  cases e with
  | normal => exact hK _ _ _ _ hk
  | exit j =>
   cases e2 : Nat.beq j id with
   | true => simp only [e2, cond_true] at hk ⊢; exact hK _ _ _ _ hk
   | false => simp only [e2, cond_false] at hk ⊢; exact hK _ _ _ _ hk
  | ret => exact hK _ _ _ _ hk
 | .loop b, T, m, sc, K, hr, K0, hK => by
  obtain ⟨sc', hr⟩ := tickP_out sc hr
  simp only [code]
  split at hr
  ·rename_i e I J sc''
   obtain ⟨h1, h2, h3⟩ := hr
   exact h2 Y T m h1 K0 fun T' hj => hK _ _ _ _ (h3 T' hj)
  ·obtain ⟨rfl, h1, h2, h3⟩ := hr
   exact h2 Y T h1 K0 fun T' hj => hK _ _ _ _ (h3 T' hj)
  ·obtain ⟨rfl, h1, h2, h3⟩ := hr
   refine h2 Y T h1 K0 fun x hx T' hj => ?_
   have h4 := h3 x hx T' hj
   rw [setS_self hj] at h4
   exact hK _ _ _ _ h4
  ·exact iterP_ok (body := codeP cfp cfy b) (fun _ _ _ _ hr' _ hK' => codeP_ok h b hr' hK') rounds hr hK
 | .exit id, _, _, _, _, hr, _, hK => hK _ _ _ _ hr
 | .ret, _, _, _, _, hr, _, hK => hK _ _ _ _ hr
 | .rangeFunc _ _ _ _, _, _, _, _, hr, _, _ => hr.elim
theorem bodyP_ok {cfy : Ys Prop → CF Prop} {Y : Ys Prop} (h : CFPOk cfp (cfy Y)) {f : AFunc} {args : List V} {m : Mem} {sc : Sc} {K : V → Mem → Sc → Prop} (hr : bodyP cfp cfy f args m sc K) {K0 : V → Mem → Prop} (hK : ∀ v m sc, K v m sc → K0 v m) : body1 pA cfy Y f args m K0 := by
 unfold bodyP at hr
 unfold body1
 cases e : Nat.ble args.length f.nt with
 | false => rw [e] at hr; exact hr.elim
 | true =>
  rw [e] at hr
  simp only [cond_true] at hr ⊢
  refine codeP_ok h f.body hr fun e T m' sc' hk => ?_
  cases e with
  | exit id => exact hk.elim
  | normal =>
   simp only at hk ⊢
   split at hk
   ·rename_i e; simp only [e]; exact hK _ _ _ hk
   ·exact hk.elim
  | ret =>
   simp only at hk ⊢
   split at hk
   ·rename_i e; simp only [e]; exact hK _ _ _ hk
   ·exact hk.elim
theorem lastP_ok {last : CF Prop} (hl : MonoCF last) : CFPOk (lastP last) last := by
 intro f args m sc K h K0 hK
 unfold lastP at h
 split at h
 ·rename_i L sc'
  obtain ⟨h1, h2⟩ := h
  rw [h1]
  cases L with
  | plain v => exact hK _ _ _ h2
  | new hd rest o => exact hK _ _ _ h2
 ·obtain ⟨h1, h2, h3, h4, h5, h6⟩ := h
  exact h1 m K0 (conAt_of h2 h3 h4 h5) (hK _ _ _ h6)
 ·obtain ⟨h1, h2, h3, h4⟩ := h
  exact h1 m K0 h2 (fun x hx => by obtain ⟨a, b, c, d⟩ := h3 x hx; exact conAt_of a b c d) (fun x hx => hK _ _ _ (h4 x hx))
 ·obtain ⟨rfl, h1, h2⟩ := h
  exact h1 K0 (hK _ _ _ h2)
 ·exact hl _ _ _ _ _ (fun v m hk => hK v m _ hk) h
theorem callP_ok {tab : Nat → Option AFunc} {last : CF Prop} (hl : MonoCF last) : ∀ (d : Nat) (Y : Ys Prop), CFPOk (callP tab last d) (callD pA tab last d Y)
 | 0, Y => lastP_ok hl
 | d + 1, Y => by
  intro f args m sc K h K0 hK
  simp only [callP] at h
  simp only [callD]
  split at h
  ·rename_i g cap
   split at h
   ·rename_i af e
    simp only [e]
    exact bodyP_ok (callP_ok hl d Y) h hK
   ·rename_i e
    simp only [e]
    exact lastP_ok hl _ _ _ _ _ h _ hK
  ·exact h.elim
  ·rename_i hn1 hn2
   split
   ·rename_i g cap; exact absurd rfl (hn1 g cap)
   ·rename_i l; exact absurd rfl (hn2 l)
   ·exact lastP_ok hl _ _ _ _ _ h _ hK
end
theorem mono_false : MonoCF (fun _ _ _ _ => False) := fun _ _ _ _ _ _ h => h
theorem mono_fn {n : Nat} {S : List V → Option V} {last : CF Prop} (hl : MonoCF last) : MonoCF (lastFn n S last) := by
 intro f args m K K' hk h
 unfold lastFn at h ⊢
 split at h
 ·rename_i g
  cases e : Nat.beq g n with
  | true =>
   simp only [e, cond_true] at h ⊢
   split at h
   ·exact hk _ _ h
   ·exact hl _ _ _ _ _ hk h
  | false => simp only [e, cond_false] at h ⊢; exact hl _ _ _ _ _ hk h
 ·exact hl _ _ _ _ _ hk h
theorem mono_w {n : Nat} {last : CF Prop} (hl : MonoCF last) : MonoCF (lastW n last) := by
 intro f args m K K' hk h
 unfold lastW at h ⊢
 split at h
 ·rename_i g
  cases e : Nat.beq g n with
  | true => simp only [e, cond_true] at h ⊢; exact hk _ _ h
  | false => simp only [e, cond_false] at h ⊢; exact hl _ _ _ _ _ hk h
 ·exact hl _ _ _ _ _ hk h
theorem walk_of_script {tab : Nat → Option AFunc} {last : CF Prop} (hl : MonoCF last) {d : Nat} {af : AFunc} {args : List V} {m : Mem} {v : V} (sc : Sc) (h : bodyP (callP tab last d) (callD pA tab last d) af args m sc fun u _ _ => u = v) (Y : Ys Prop) (K : V → Mem → Prop) (hK : ∀ m, K v m) : body1 pA (callD pA tab last d) Y af args m K :=
 bodyP_ok (callP_ok hl d Y) h fun u m' _ e => by subst e; exact hK m'
theorem code_of_vc {tab : Nat → Option AFunc} {last : CF Prop} (hl : MonoCF last) {d : Nat} {c : ACode} {T : Slots} {m M : Mem} {E : Ex} {l : List (Sl × V)} (sc : Sc) {VC : Prop} (vc : VC) (e : VC = codeP (callP tab last d) (callD pA tab last d) c T m sc fun e T' m' _ => endS E M l e T' m') (Y : Ys Prop)
  (K : Ex → Slots → Mem → Prop) (hK : ∀ T', allS T' l → K E T' M) : code pA (callD pA tab last d) Y c T m K :=
 codeP_ok (callP_ok hl d Y) c (e ▸ vc) fun e T' m' _ h => by obtain ⟨rfl, rfl, h⟩ := h; exact hK T' h
def endR (s : Sl) (v : V) (e : Ex) (T : Slots) (m : Mem) : Prop := e = .ret ∧ T.get s = v
theorem codeR_of_vc {tab : Nat → Option AFunc} {last : CF Prop} (hl : MonoCF last) {d : Nat} {c : ACode} {T : Slots} {m : Mem} {s : Sl} {v : V} (sc : Sc) {VC : Prop} (vc : VC) (e : VC = codeP (callP tab last d) (callD pA tab last d) c T m sc fun e T' m' _ => endR s v e T' m') (Y : Ys Prop)
  (K : Ex → Slots → Mem → Prop) (hK : ∀ T' m', T'.get s = v → K .ret T' m') : code pA (callD pA tab last d) Y c T m K :=
 codeP_ok (callP_ok hl d Y) c (e ▸ vc) fun e T' m' _ h => by obtain ⟨rfl, h⟩ := h; exact hK T' m' h
theorem loop2 {cfy : Ys Prop → CF Prop} {b : ACode} {x : Nat} {M1 : Mem} {l1 : List (Sl × V)} (n : Nat) (hn : n < rounds) (M : Nat → Mem) (l : Nat → List (Sl × V))
  (step : ∀ (Y : Ys Prop) (i : Nat) (T : Slots), i < n → allS T (l i) → ∀ K : Ex → Slots → Mem → Prop, (∀ T', allS T' (l (i + 1)) → K .normal T' (M (i + 1))) → code pA cfy Y b T (M i) K)
  (fin : ∀ (Y : Ys Prop) (T : Slots), allS T (l n) → ∀ K : Ex → Slots → Mem → Prop, (∀ T', allS T' l1 → K (.exit x) T' M1) → code pA cfy Y b T (M n) K) : LoopOk2 cfy b (.exit x) (M 0) (l 0) M1 l1 := by
 intro Y T h0 K hK
 have go : ∀ (k i : Nat) (fuel : Nat), i + k = n → k < fuel → ∀ T, allS T (l i) → iter pA (code pA cfy Y b) fuel T (M i) K := by
  intro k
  induction k with
  | zero =>
   intro i fuel hi hf T hT
   obtain ⟨f, rfl⟩ : ∃ f, fuel = f + 1 := ⟨fuel - 1, by omega⟩
   simp only [iter]
   have e : i = n := by omega
   subst e
   exact fin Y T hT _ fun T' h => hK T' h
  | succ k ih =>
   intro i fuel hi hf T hT
   obtain ⟨f, rfl⟩ : ∃ f, fuel = f + 1 := ⟨fuel - 1, by omega⟩
   simp only [iter]
   exact step Y i T (by omega) hT _ fun T' h => ih (i + 1) f (by omega) (by omega) T' h
 exact go n 0 rounds (by omega) hn T h0
end Go.AM
