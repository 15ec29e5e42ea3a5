/- An abstract machine: an addition. No condition. -/
import Derived.Test.YtjekgdkaejgpdaaGreatAM49
import Derived.Test.YtjekgdkaejgpdaaGreatAM47
import Derived.Test.YtjekgdkaejgpdaaGreatAMb
namespace Go.AM
open Go
section
variable (P : Program) (cfy : Ys Prop → CF Prop) (Y : Ys Prop) (B : Nat)
structure Vague (cs cs' : List V) : Prop where
 len : cs'.length = cs.length
 get : ∀ (k : Nat) (v : V), cs'[k]? = some v → cs[k]? = some v ∨ v = V.any ∧ ∃ b o, cs[k]? = some (V.ptr b o)
inductive zAR : zAz → zAa → Mem → (Ex → zAa → Mem → Prop) → Prop
 | base {c : zAz} {T : zAa} {m : Mem} {K : Ex → zAa → Mem → Prop} (h : zIm cfy Y B c T m K) : zAR c T m K
 | other {c : zAz} {T : zAa} {m : Mem} {K : Ex → zAa → Mem → Prop} (cfy2 : Ys Prop → CF Prop) (hcf : CFOk P cfy2 id) (h : zIm cfy2 Y B c T m K) : zAR c T m K
 | vague {c : zAz} {T : zAa} {m : Mem} {K : Ex → zAa → Mem → Prop} {b : Nat} {cs cs' : List V} {ro : Bool} (hg : m.get b = some (.cells cs ro)) (hv : Vague cs cs') (h : zAR c T (m.set b (.cells cs' ro)) K) : zAR c T m K
 | condT {c : Opd} {x y : zAz} {T : zAa} {m : Mem} {K : Ex → zAa → Mem → Prop} (hc : ev T c = .bool true) (h : zAR x T m K) : zAR (.cond c x y) T m K
 | condF {c : Opd} {x y : zAz} {T : zAa} {m : Mem} {K : Ex → zAa → Mem → Prop} (hc : ev T c = .bool false) (h : zAR y T m K) : zAR (.cond c x y) T m K
 | step {c : zAz} {T T' : zAa} {m m' : Mem} {K : Ex → zAa → Mem → Prop} (hs : StepD B T m T' m') (h : zAR c T' m' K) : zAR c T m K
 | seq {a b : zAz} {T : zAa} {m : Mem} {K : Ex → zAa → Mem → Prop} (K1 : Ex → zAa → Mem → Prop) (h1 : zAR a T m K1) (h2 : ∀ T' m', K1 .normal T' m' → zAR b T' m' K) (h3 : ∀ e T' m', e ≠ .normal → K1 e T' m' → K e T' m') : zAR (.seq a b) T m K
 | block {id : Nat} {b : zAz} {T : zAa} {m : Mem} {K : Ex → zAa → Mem → Prop} (K1 : Ex → zAa → Mem → Prop) (h1 : zAR b T m K1) (h2 : ∀ e T' m', e ≠ .exit id → K1 e T' m' → K e T' m') (h3 : ∀ T' m', K1 (.exit id) T' m' → K .normal T' m') : zAR (.block id b) T m K
 | loop {b : zAz} {T : zAa} {m : Mem} {K : Ex → zAa → Mem → Prop} (I : Nat → zAa → Mem → Prop) (n : Nat) (hn : n < rounds) (h0 : I n T m)
   (h1 : ∀ k T' m', I k T' m' → zAR b T' m' (fun e T'' m'' => match e with | .normal => ∃ j, j < k ∧ I j T'' m'' | e => K e T'' m'')) : zAR (.loop b) T m K
end
section
variable {P : Program} {cfy : Ys Prop → CF Prop} {nt : Nat}
theorem zHL {ops : Array Oper} {d : Bool} {ac : zAz} (h : zC0 P nt ops d = some ac) : (∀ a b, ac ≠ .seq a b) ∧ (∀ i b, ac ≠ .block i b) ∧ (∀ b, ac ≠ .loop b) := by
 rcases zEh h with ⟨l, rfl⟩ | ⟨t, l, rfl⟩ <;> exact ⟨(fun _ _ h => nomatch h), (fun _ _ h => nomatch h), (fun _ h => nomatch h)⟩
theorem comp_seq {c : Code} {a b : zAz} (h : zBG P nt c = some (.seq a b)) : ∃ x y, c = .seq x y ∧ zBG P nt x = some a ∧ zBG P nt y = some b := by
 cases c with
 | seq x y =>
  simp only [zBG] at h
  split at h
  ·rename_i ax ay hx hy
   simp only [Option.some.injEq, zAz.seq.injEq] at h
   obtain ⟨rfl, rfl⟩ := h
   exact ⟨x, y, rfl, hx, hy⟩
  ·cases h
 | region id ops d => simp only [zBG] at h; exact absurd rfl ((zHL h).1 a b)
 | block id c => simp only [zBG] at h; split at h <;> simp at h
 | loop c => simp only [zBG] at h; split at h <;> simp at h
 | cond c x y => simp only [zBG] at h; split at h <;> simp at h
 | rangeFunc f ps x y =>
  simp only [zBG] at h
  obtain ⟨_, h⟩ := zAF h
  split at h <;> simp at h
 | _ => simp [zBG] at h
theorem comp_block {c : Code} {i : Nat} {b : zAz} (h : zBG P nt c = some (.block i b)) : ∃ x, c = .block i x ∧ zBG P nt x = some b := by
 cases c with
 | block id c =>
  simp only [zBG] at h
  split at h
  ·rename_i ac' hc
   simp only [Option.some.injEq, zAz.block.injEq] at h
   obtain ⟨rfl, rfl⟩ := h
   exact ⟨c, rfl, hc⟩
  ·cases h
 | region id ops d => simp only [zBG] at h; exact absurd rfl ((zHL h).2.1 i b)
 | seq x y => simp only [zBG] at h; split at h <;> simp at h
 | loop c => simp only [zBG] at h; split at h <;> simp at h
 | cond c x y => simp only [zBG] at h; split at h <;> simp at h
 | rangeFunc f ps x y =>
  simp only [zBG] at h
  obtain ⟨_, h⟩ := zAF h
  split at h <;> simp at h
 | _ => simp [zBG] at h
theorem comp_loop {c : Code} {b : zAz} (h : zBG P nt c = some (.loop b)) : ∃ x, c = .loop x ∧ zBG P nt x = some b := by
 cases c with
 | loop c =>
  simp only [zBG] at h
  split at h
  ·rename_i ac' hc
   simp only [Option.some.injEq, zAz.loop.injEq] at h
   subst h
   exact ⟨c, rfl, hc⟩
  ·cases h
 | region id ops d => simp only [zBG] at h; exact absurd rfl ((zHL h).2.2 b)
 | seq x y => simp only [zBG] at h; split at h <;> simp at h
 | block id c => simp only [zBG] at h; split at h <;> simp at h
 | cond c x y => simp only [zBG] at h; split at h <;> simp at h
 | rangeFunc f ps x y =>
  simp only [zBG] at h
  obtain ⟨_, h⟩ := zAF h
  split at h <;> simp at h
 | _ => simp [zBG] at h
theorem comp_cond {c : Code} {o : Opd} {a b : zAz} (h : zBG P nt c = some (.cond o a b)) : ∃ c' x y, c = .cond c' x y ∧ opd nt c' = some o ∧ zBG P nt x = some a ∧ zBG P nt y = some b := by
 cases c with
 | cond c x y =>
  simp only [zBG] at h
  split at h
  ·rename_i c' ax ay hc hx hy
   simp only [Option.some.injEq, zAz.cond.injEq] at h
   obtain ⟨rfl, rfl, rfl⟩ := h
   exact ⟨c, x, y, rfl, hc, hx, hy⟩
  ·cases h
 | region id ops d =>
  simp only [zBG] at h
  rcases zEh h with ⟨l, h⟩ | ⟨t, l, h⟩ <;> cases h
 | seq x y => simp only [zBG] at h; split at h <;> simp at h
 | block id c => simp only [zBG] at h; split at h <;> simp at h
 | loop c => simp only [zBG] at h; split at h <;> simp at h
 | rangeFunc f ps x y =>
  simp only [zBG] at h
  obtain ⟨_, h⟩ := zAF h
  split at h <;> simp at h
 | _ => simp [zBG] at h
theorem At.vague {lo : Nat} {ρ₀ : Ren} {m₀ : Mem} {w₀ : World} {ρ : Ren} {T : zAa} {m : Mem} {a : Act} {w : World} (h : At lo ρ₀ m₀ w₀ nt ρ T m a w) {b : Nat} {cs cs' : List V} {ro : Bool} (hg : m.get b = some (.cells cs ro)) (hv : Vague cs cs') : At lo ρ₀ m₀ w₀ nt ρ T (m.set b (.cells cs' ro)) a w := by
 have hm := h.mr
 have hx := h.ext
 have get : ∀ c o, (m.set b (.cells cs' ro)).get c = some o → ∃ o', m.get c = some o' ∧ o'.wr = o.wr ∧ o'.live = o.live := by
  intro c o ho
  rw [Mem.get_set] at ho
  split at ho
  ·rename_i e; subst e; cases ho; exact ⟨_, hg, rfl, rfl⟩
  ·exact ⟨o, ho, rfl, rfl⟩
 refine ⟨h.sr, ⟨fun c i hc => hm.lt c i hc, fun c i o hc ho => ?_, fun x c i j o u hb hc hij ho hw hu hl => ?_⟩, ⟨hx.ren, hx.size, hx.next, hx.fresh, hx.keep, fun c i o hc ho hw hlt => ?_, hx.mute⟩, h.df⟩
 ·rw [Mem.get_set] at ho
  split at ho
  ·rename_i e; subst e; cases ho
   obtain ⟨cs0, ty, lo, hi, h1, h2, h3, h4⟩ := hm.obj c i _ hc hg
   refine ⟨cs0, ty, lo, hi, h1, h2, fun k v hk => ?_, h4⟩
   rcases hv.get k v hk with h5 | ⟨rfl, x, o, h5⟩
   ·exact h3 k v h5
   ·obtain ⟨v', h6, h7⟩ := h3 k _ h5
    refine ⟨v', h6, .unk fun y hy => ?_⟩
    subst hy; cases h7
  ·exact hm.obj c i o hc ho
 ·obtain ⟨o', g1, g2, g3⟩ := get x o ho
  obtain ⟨u', g4, g5, g6⟩ := get c u hu
  exact hm.inj x c i j o' u' hb hc hij g1 (by rw [g2]; exact hw) g4 (by rw [g6]; exact hl)
 ·obtain ⟨o', g1, g2, g3⟩ := get c o ho
  exact hx.old c i o' hc g1 (by rw [g2]; exact hw) hlt
theorem codeN_sound (hcf : CFOk P cfy id) (hmix : P.follows .mixedOrders = true) {Y : Ys Prop} {lo : Nat} {ρ₀ : Ren} {m₀ : Mem} {w₀ : World} (hlow : ∀ b i, ρ₀ b = some i → b < m₀.next) (hlo : lo ≤ w₀.heap.size) (hY : YOk P Y id ρ₀)
  {ac : zAz} {T : zAa} {m : Mem} {K : Ex → zAa → Mem → Prop} (hH : zAR P cfy Y m₀.next ac T m K) : ∀ (c : Code), zBG P nt c = some ac → ∀ (r : Option Nat), (r = none ∨ zAY c = true) → ∀ (Q : Exit → Act → World → Prop),
  (∀ (e : Ex) (ρ : Ren) (T : zAa) (m : Mem) (a : Act) (w : World), At lo ρ₀ m₀ w₀ nt ρ T m a w → K e T m → Q e.to a w) →
  ∀ (ρ : Ren) (a : Act) (w : World), At lo ρ₀ m₀ w₀ nt ρ T m a w → c.wpIn (Fr r) 0 P Q a w := by
 induction hH with
 | base h =>
  intro c hc r hr Q hQ ρ a w hat
  exact zHP hcf hmix c _ hc Y lo r ρ₀ m₀ w₀ hlow hlo hY hr Q _ hQ ρ _ _ a w hat h
 | other cfy2 hcf2 h =>
  intro c hc r hr Q hQ ρ a w hat
  exact zHP hcf2 hmix c _ hc Y lo r ρ₀ m₀ w₀ hlow hlo hY hr Q _ hQ ρ _ _ a w hat h
 | vague hg hv _ ih =>
  intro c hc r hr Q hQ ρ a w hat
  exact ih c hc r hr Q hQ ρ a w (hat.vague hg hv)
 | condT he _ ih =>
  intro c hc r hr Q hQ ρ a w hat
  obtain ⟨c', x, y, rfl, hc', hx, hy⟩ := comp_cond hc
  have hr1 : r = none ∨ zAY x = true := by
   rcases hr with h | h
   ·exact .inl h
   ·simp only [zAY, Bool.and_eq_true] at h; exact .inr h.1
  have hv := zAk hat.sr hc'
  rw [he] at hv
  generalize hg : a.eval c' = v' at hv
  cases hv
  exact wpIn_cond_true hg (ih x hx r hr1 Q hQ ρ a w hat)
 | condF he _ ih =>
  intro c hc r hr Q hQ ρ a w hat
  obtain ⟨c', x, y, rfl, hc', hx, hy⟩ := comp_cond hc
  have hr1 : r = none ∨ zAY y = true := by
   rcases hr with h | h
   ·exact .inl h
   ·simp only [zAY, Bool.and_eq_true] at h; exact .inr h.2
  have hv := zAk hat.sr hc'
  rw [he] at hv
  generalize hg : a.eval c' = v' at hv
  cases hv
  exact wpIn_cond_false hg (ih y hy r hr1 Q hQ ρ a w hat)
 | step hs _ ih =>
  intro c hc r hr Q hQ ρ a w hat
  cases hs with
  | drop h1 h2 => exact ih c hc r hr Q hQ _ a w (hat.drop hlow h1 h2)
  | back h1 => exact ih c hc r hr Q hQ _ a w (hat.back hlow h1)
 | seq K1 _ _ h3 ih1 ih2 =>
  intro c hc r hr Q hQ ρ a w hat
  obtain ⟨x, y, rfl, hx, hy⟩ := comp_seq hc
  have hr1 : (r = none ∨ zAY x = true) ∧ (r = none ∨ zAY y = true) := by
   rcases hr with h | h
   ·exact ⟨.inl h, .inl h⟩
   ·simp only [zAY, Bool.and_eq_true] at h; exact ⟨.inr h.1, .inr h.2⟩
  refine wpIn_seq (ih1 x hx r hr1.1 _ (fun e ρ' T' m' a' w' hat' h' => ?_) ρ a w hat)
  cases e with
  | normal => exact ih2 T' m' h' y hy r hr1.2 Q hQ ρ' a' w' hat'
  | exit id => exact hQ (.exit id) ρ' T' m' a' w' hat' (h3 _ _ _ (fun h => nomatch h) h')
  | ret => exact hQ .ret ρ' T' m' a' w' hat' (h3 _ _ _ (fun h => nomatch h) h')
 | @block id b T0 m0 K0 K1 _ h2 h3 ih =>
  intro c hc r hr Q hQ ρ a w hat
  obtain ⟨x, rfl, hx⟩ := comp_block hc
  refine wpIn_block (ih x hx r hr _ (fun e ρ' T' m' a' w' hat' h' => ?_) ρ a w hat)
  cases e with
  | normal => exact hQ .normal ρ' T' m' a' w' hat' (h2 _ _ _ (fun h => nomatch h) h')
  | exit j =>
   simp only [Ex.to, Exit.inBlock]
   by_cases e : j = id
   ·rw [if_pos e]
    subst e
    exact hQ .normal ρ' T' m' a' w' hat' (h3 _ _ h')
   ·rw [if_neg e]
    exact hQ (.exit j) ρ' T' m' a' w' hat' (h2 _ _ _ (fun h => e (by injection h)) h')
  | ret => exact hQ .ret ρ' T' m' a' w' hat' (h2 _ _ _ (fun h => nomatch h) h')
 | @loop b T0 m0 K0 I n hn h0 _ ih =>
  intro c hc r hr Q hQ ρ a w hat
  obtain ⟨x, rfl, hx⟩ := comp_loop hc
  have hr1 : r = none ∨ zAY x = true := hr
  have go : ∀ (fuel k : Nat), k < fuel → ∀ (T : zAa) (m : Mem), I k T m → ∀ (ρ : Ren) (a : Act) (w : World), At lo ρ₀ m₀ w₀ nt ρ T m a w → roundsIn (Fr r) P x Q fuel a w := by
   intro fuel
   induction fuel with
   | zero => intro k hk; exact absurd hk (Nat.not_lt_zero _)
   | succ fuel ihf =>
    intro k hk T m hI ρ a w hat
    refine ih k T m hI x hx r hr1 _ (fun e ρ' T' m' a' w' hat' h' => ?_) ρ a w hat
    cases e with
    | normal =>
     obtain ⟨j, hj, hI'⟩ := h'
     exact ihf j (by omega) T' m' hI' ρ' a' w' hat'
    | exit id => exact hQ (.exit id) ρ' T' m' a' w' hat' h'
    | ret => exact hQ .ret ρ' T' m' a' w' hat' h'
  exact wpIn_loop_rounds rounds (go rounds n hn T0 m0 h0 ρ a w hat)
def body1N (P : Program) (cfy : Ys Prop → CF Prop) (Y : Ys Prop) (f : zAr) (args : List V) (m : Mem) (K : V → Mem → Prop) : Prop :=
 Nat.ble args.length f.nt = true ∧
  zAR P cfy Y m.next f.body (zHA 0 args zFv) m fun e T m' => match e with
   | .exit _ => False
   | _ => match zGt f T m' with | some v => K v m' | none => False
theorem func_soundN (hcf : CFOk P cfy id) (hmix : P.follows .mixedOrders = true) {f : FuncId} {fn : Func} (hf : P.funcs[f]? = some fn) {af : zAr} (hc : zCU P fn = some af) {Y : Ys Prop} {ρ : Ren} (hY : YOk P Y id ρ) {m : Mem} {w : World} (hm : MR ρ m w)
  {args : List V} {args' : List Value} (ha : VRs ρ args args') {K : V → Mem → Prop} (hH : body1N P cfy Y af args m K) : Calls P f ⟨args'⟩ w (zBJ id ρ m w K) := by
 unfold zCU at hc
 split at hc
 ·rename_i c hb
  split at hc
  ·rename_i ac ars h1 h2
   obtain ⟨h3, h4⟩ := zAF hc
   simp only [Option.some.injEq] at h4
   subst h4
   obtain ⟨hl, hH⟩ := hH
   have hl := zAA.1 hl
   refine (callsIn_wide (n := 0)).1 (callsIn_of_wp_marks (F := Fr none) hf hb trivial ?_)
   refine codeN_sound hcf hmix (lo := w.heap.size) (w₀ := w) (fun b i h => (hm.lt b i h).1) (Nat.le_refl _) hY hH c h1 none (.inl rfl) _ (fun e ρ' T m' a w' hat h' => ?_) ρ _ w ⟨sr_enter ha hl (zAA.1 h3), hm, Ext.refl ρ m w, DOk.nil _ w⟩
   have fin : (match zGt ⟨fn.ntmps, ars, ac⟩ T m' with | some v => K v m' | none => False) → LeavesInM (Fr none) 0 P fn a.tmps (zBJ id ρ m w K) a.defers .returning w' := by
    intro h''
    obtain ⟨rs, r1, r2, r3⟩ := hat.df
    rw [r1]
    refine zEj rs w' hat.mr r2 r3 fun w2 g1 g2 g3 g4 => ?_
    split at h''
    ·rename_i v hv
     obtain ⟨v', h5, h6⟩ := zGs (af := ⟨fn.ntmps, ars, ac⟩) h2 hat.sr g1 hv
     refine ⟨v', h5, ρ', v, m', h6, g1, ?_, h''⟩
     exact ⟨hat.ext.ren, by rw [g2]; exact hat.ext.size, hat.ext.next, hat.ext.fresh, fun k hk hro => by rw [g4 k hk]; exact hat.ext.keep k hk hro, hat.ext.old, hat.ext.mute.trans g3⟩
    ·exact h''.elim
   cases e with
   | normal => exact fin h'
   | exit id => exact h'.elim
   | ret => exact fin h'
  ·cases hc
 ·cases hc
theorem conOk_walkN (hmix : P.follows .mixedOrders = true) {n : Nat} {af : zAr} (hok : FOk P n af) (hcf : CFOk P cfy id) {C : Con} (hw : body1N P cfy Ys.none af C.args (zB1 C.pre) (zCi C)) : zAq P n C := by
 intro ρ w args' hρ hm ha
 obtain ⟨fn, h3, h4, _⟩ := hok
 refine (func_soundN hcf hmix h3 h4 (Y := Ys.none) (ρ := ρ) YOk.none hm ha hw).mono fun e w' he => ?_
 cases e with
 | panicked c => exact he.elim
 | outgrown => exact he.elim
 | returned v' =>
  obtain ⟨ρ', u, m', g1, g2, g3, g4⟩ := he
  obtain ⟨rfl, g6, g7⟩ := g4
  exact ⟨ρ', m', v', rfl, g2, g3, g1, fun c o h => by have := zHo g6 c o h; rwa [Nat.zero_add] at this, zHr g7⟩
end
theorem body_retN {P : Program} {cf : Ys Prop → CF Prop} {Y : Ys Prop} {nt : Nat} {s : Sl} {c : zAz} {args : List V} {m : Mem} {v : V} {K : V → Mem → Prop} (hn : Nat.ble args.length nt = true)
  (h : ∀ K' : Ex → zAa → Mem → Prop, (∀ T' m', T'.get s = v → K' .ret T' m') → zAR P cf Y m.next c (zHA 0 args zFv) m K') (hK : ∀ mm, K v mm) : body1N P cf Y ⟨nt, [.tmp s], c⟩ args m K := by
 refine ⟨hn, h _ fun T' m' e => ?_⟩
 simp only [zGt, resVs, resV, e]
 exact hK m'
section
variable {P : Program} {cf : Ys Prop → CF Prop} {Y : Ys Prop} {B : Nat} {a b : zAz} {T : zAa} {m : Mem} {K : Ex → zAa → Mem → Prop}
theorem seqP (R : zAa → Mem → Prop) (h1 : ∀ K' : Ex → zAa → Mem → Prop, (∀ T' m', R T' m' → K' .normal T' m') → zAR P cf Y B a T m K') (h2 : ∀ T' m', R T' m' → zAR P cf Y B b T' m' K) : zAR P cf Y B (.seq a b) T m K :=
 .seq (fun e T' m' => e = .normal ∧ R T' m') (h1 _ fun _ _ h => ⟨rfl, h⟩) (fun T' m' h => h2 T' m' h.2) (fun e T' m' hn h => absurd h.1 hn)
theorem zDN {M1 : Mem} {l1 : List (Sl × V)} (h1 : ∀ K' : Ex → zAa → Mem → Prop, (∀ T', zAG T' l1 → K' .normal T' M1) → code pA cf Y a T m K') (h2 : ∀ T', zAG T' l1 → zAR P cf Y B b T' M1 K) : zAR P cf Y B (.seq a b) T m K :=
 seqP (fun T' m' => m' = M1 ∧ zAG T' l1) (fun K' hK' => .base (zG3 (h1 K' fun T' h => hK' T' _ ⟨rfl, h⟩))) fun T' m' h => by obtain ⟨rfl, h⟩ := h; exact h2 T' h
theorem seqRN {s : Sl} {v : V} (h1 : ∀ K' : Ex → zAa → Mem → Prop, (∀ T' m', T'.get s = v → K' .ret T' m') → code pA cf Y a T m K') (hK : ∀ T' m', T'.get s = v → K .ret T' m') : zAR P cf Y B (.seq a b) T m K :=
 .seq (fun e T' m' => e = .ret ∧ T'.get s = v) (.base (zG3 (h1 _ fun _ _ h => ⟨rfl, h⟩))) (fun T' m' h => by cases h.1) (fun e T' m' _ h => by obtain ⟨rfl, h⟩ := h; exact hK T' m' h)
theorem zGn {c : zAz} (h : code pA cf Y c T m K) : zAR P cf Y B c T m K := .base (zG3 h)
theorem renN {c : zAz} {l : List Nat} {L : List (Sl × V)} {m' : Mem} (h : RenM B l m m') (hT : zAG T L) (hc : ∀ T', zAG T' (backS l L) → zAR P cf Y B c T' m' K) : zAR P cf Y B c T m K :=
 .step (.back h) (hc _ (allS_back hT))
def runAll (cf2 : Ys Prop → CF Prop) (Y : Ys Prop) : List zAz → zAa → Mem → (zAa → Mem → Prop) → Prop
 | [], T, m, R => R T m
 | c :: l, T, m, R => code pA cf2 Y c T m fun e T' m' => match e with
  | .normal => runAll cf2 Y l T' m' R
  | _ => False
def seqAll : List zAz → zAz → zAz
 | [], b => b
 | c :: l, b => .seq c (seqAll l b)
theorem seqAllN {cf2 : Ys Prop → CF Prop} (h2 : CFOk P cf2 id) {R : zAa → Mem → Prop} (hb : ∀ T' m', R T' m' → zAR P cf Y B b T' m' K) : ∀ {l : List zAz} {T : zAa} {m : Mem}, runAll cf2 Y l T m R → zAR P cf Y B (seqAll l b) T m K
 | [], T, m, h => hb T m h
 | c :: l, T, m, h => .seq _ (.other cf2 h2 (zG3 h)) (fun T' m' h' => seqAllN h2 hb h') (fun e T' m' hn h' => by
  cases e with
  | normal => exact absurd rfl hn
  | exit i => exact h'.elim
  | ret => exact h'.elim)
end
end Go.AM
