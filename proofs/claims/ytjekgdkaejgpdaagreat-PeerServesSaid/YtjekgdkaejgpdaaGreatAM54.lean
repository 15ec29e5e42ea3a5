/- An abstract machine: an addition. No condition. -/
import Derived.Test.YtjekgdkaejgpdaaGreatAM53
import Derived.Test.YtjekgdkaejgpdaaGreatAMb
namespace Go.AM
open Go
section
variable (C : Con) (σ : Nat → Nat)
def setG (σ τ : Nat → Nat) : Nat → List zAe → List zAe → Mem → Mem
 | i, p :: ps, o :: l, m => setG σ τ (i + 1) ps l (bif p.live then m.set (σ i) (o.ren τ) else m)
 | _, [], _, m => m
 | _, _ :: _, [], m => m
def Con.memG (m : Mem) : Mem := zE1 (C.tau σ m.next) C.new (setG σ (C.tau σ m.next) 0 C.pre C.old m)
def Con.wfG : Bool := zF2 C.p0 C.args && C.pre.all (fun o => o.bel C.p0) && C.ans.bel C.p1 && C.old.all (fun o => o.bel C.p1) && C.new.all (fun x => x.2.bel C.p1 && x.2.wr && Nat.ble C.pre.length x.1) && zFE C.new && Nat.beq C.old.length C.pre.length
end
theorem zDA (σ τ : Nat → Nat) : ∀ (ps l : List zAe) (i : Nat) (m : Mem), (setG σ τ i ps l m).next = m.next
 | [], _, _, _ => by simp [setG]
 | _ :: _, [], _, _ => by simp [setG]
 | p :: ps, o :: l, i, m => by
  simp only [setG]; rw [zDA σ τ ps l]
  cases p.live <;> rfl
theorem zHa (σ τ : Nat → Nat) {b : Nat} : ∀ (ps l : List zAe) (i : Nat) (m : Mem), (∀ j o, ps[j]? = some o → o.live = true → b ≠ σ (i + j)) → (setG σ τ i ps l m).get b = m.get b
 | [], _, _, _, _ => by simp [setG]
 | _ :: _, [], _, _, _ => by simp [setG]
 | p :: ps, o :: l, i, m, h => by
  simp only [setG]
  rw [zHa σ τ ps l (i + 1) _ fun j u hj hu => by have := h (j + 1) u (by simpa using hj) hu; rwa [show i + (j + 1) = i + 1 + j by omega] at this]
  cases e : p.live with
  | false => rfl
  | true =>
   have h0 := h 0 p (by simp) e
   rw [Nat.add_zero] at h0
   rw [cond_true, Mem.get_set, if_neg h0]
theorem setG_hit (σ τ : Nat → Nat) : ∀ (ps l : List zAe) (i : Nat) (m : Mem), (∀ a b, a < i + ps.length → b < i + ps.length → σ a = σ b → a = b) → ∀ (j : Nat) (p o : zAe), ps[j]? = some p → p.live = true → l[j]? = some o → (setG σ τ i ps l m).get (σ (i + j)) = some (o.ren τ)
 | [], _, _, _, _, _, _, _, h, _, _ => by simp at h
 | _ :: _, [], _, _, _, _, _, _, _, _, h => by simp at h
 | q :: ps, u :: l, i, m, hi, 0, p, o, h, hp, h2 => by
  simp at h h2; subst h; subst h2
  simp only [setG, hp, cond_true]
  show (setG σ τ (i + 1) ps l (m.set (σ i) (u.ren τ))).get (σ i) = _
  rw [zHa σ τ ps l (i + 1) _ fun j o' hj _ he => ?_, Mem.get_set, if_pos rfl]
  have hj' := (List.getElem?_eq_some_iff.1 hj).1
  have := hi i (i + 1 + j) (by simp) (by simp only [List.length_cons]; omega) he
  omega
 | q :: ps, u :: l, i, m, hi, j + 1, p, o, h, hp, h2 => by
  simp only [setG]
  have := setG_hit σ τ ps l (i + 1) (bif q.live then m.set (σ i) (u.ren τ) else m) (fun a b ha hb => hi a b (by simp; omega) (by simp; omega)) j p o (by simpa using h) hp (by simpa using h2)
  rwa [show i + 1 + j = i + (j + 1) by omega] at this
theorem con_useG {P : Program} {n : Nat} {C : Con} (hC : zAq P n C) (hwf : C.wfG = true) {ρ : Ren} {m : Mem} {w : World} (hm : MR ρ m w) {σ : Nat → Nat} (hinj : ∀ a b, a < C.pre.length → b < C.pre.length → σ a = σ b → a = b)
  (hpre : ∀ c o, C.pre[c]? = some o → o.live = true → m.get (σ c) = some (o.ren σ)) {args' : List Value} (ha : VRs ρ (zDr σ C.args) args') :
  Calls P n ⟨args'⟩ w fun e w' => ∃ (ρ' : Ren) (v' : Value), e = .returned v' ∧ VR ρ' (C.ans.ren (C.tau σ m.next)) v' ∧ MR ρ' (C.memG σ m) w' ∧ Ext ρ m w ρ' (C.memG σ m) w' := by
 simp only [Con.wfG, Bool.and_eq_true, List.all_eq_true] at hwf
 obtain ⟨⟨⟨⟨⟨⟨f1, f2⟩, f3⟩, f4⟩, f5⟩, f6⟩, f7⟩ := hwf
 have f7 := Nat.eq_of_beq_eq_true f7
 generalize hk : C.pre.length = k at *
 let ρ₀ : Ren := fun c => if c < k then ρ (σ c) else none
 have r0 : ∀ c i, ρ₀ c = some i → c < k ∧ ρ (σ c) = some i := by
  intro c i h
  simp only [ρ₀] at h
  split at h
  ·exact ⟨by assumption, h⟩
  ·cases h
 have r1 : ∀ c i, c < k → ρ (σ c) = some i → ρ₀ c = some i := by
  intro c i h1 h2
  simp only [ρ₀]
  rw [if_pos h1]; exact h2
 have p0k : ∀ c, C.p0 c = true → c < k := by
  intro c h
  unfold Con.p0 at h
  rw [hk] at h
  exact zAV.1 h
 have preO : ∀ c o, C.pre[c]? = some o → o.bel C.p0 = true ∧ c < k := by
  intro c o h
  refine ⟨f2 o (List.mem_of_getElem? h), ?_⟩
  rw [← hk]
  exact (List.getElem?_eq_some_iff.1 h).1
 have bwd : ∀ c i, C.p0 c = true → ρ (σ c) = some i → ρ₀ c = some i := fun c i h1 h2 => r1 c i (p0k c h1) h2
 have liveW : ∀ o : zAe, o.wr = true → o.live = true := fun o h => by cases o <;> first | rfl | (simp [zAe.wr] at h)
 have hm0 : MR ρ₀ (zB1 C.pre) w := by
  refine ⟨fun c i h => ?_, fun c i o h ho => ?_, fun b c i j o u hb hc hij ho hw hu hl => ?_⟩
  ·obtain ⟨h1, h2⟩ := r0 c i h
   exact ⟨by show c < C.pre.length; omega, (hm.lt _ _ h2).2⟩
  ·rw [zDk] at ho
   obtain ⟨h1, h2⟩ := r0 c i h
   cases hl : o.live with
   | false => cases o <;> first | trivial | (cases hl)
   | true => exact (hm.obj _ _ _ h2 (hpre c o ho hl)).bwd bwd (preO c o ho).1
  ·rw [zDk] at ho hu
   obtain ⟨h1, h2⟩ := r0 b i hb
   obtain ⟨h3, h4⟩ := r0 c j hc
   refine hinj b c h1 h3 (hm.inj _ _ _ _ _ _ h2 h4 hij (hpre b o ho (liveW o hw)) ?_ (hpre c u hu hl) ?_)
   ·rw [zAe.ren_wr (preO b o ho).1]; exact hw
   ·rw [zAe.ren_live (preO c u hu).1]; exact hl
 refine (hC ρ₀ w args' (fun c i h => by rw [hk]; exact (r0 c i h).1) hm0 (VRs.bwd bwd C.args ha f1)).mono fun e w' ⟨ρ', m', v', he, hm', hx, hv, hold, hnew⟩ => ?_
 let τ := C.tau σ m.next
 let ρ₁ : Ren := fun b => if b < m.next then ρ b else match C.new[b - m.next]? with | some x => ρ' x.1 | none => none
 have q0 : ∀ b, b < m.next → ρ₁ b = ρ b := fun b h => by simp only [ρ₁]; rw [if_pos h]
 have hle : ρ.le ρ₁ := fun b i h => by rw [q0 b (hm.lt b i h).1]; exact h
 have tk : ∀ c, c < k → τ c = σ c := fun c h => by
  show (bif Nat.blt c C.pre.length then σ c else _) = _
  rw [hk, nbltT h, cond_true]
 have tn : ∀ (j c : Nat) (o : zAe), C.new[j]? = some (c, o) → τ c = m.next + j := fun j c o h => by
  have h1 := (f5 (c, o) (List.mem_of_getElem? h)).2
  have h2 : k ≤ c := zAA.1 h1
  show (bif Nat.blt c C.pre.length then σ c else _) = _
  rw [hk, nbltF (by omega), cond_false, zHh f6 h]
 have fwd : ∀ c i, C.p1 c = true → ρ' c = some i → ρ₁ (τ c) = some i := by
  intro c i hp h
  by_cases hc : c < k
  ·rw [tk c hc]
   rcases hx.fresh c i h with h1 | h1
   ·have h2 := (r0 c i h1).2
    rw [q0 _ (hm.lt _ _ h2).1]; exact h2
   ·have : C.pre.length ≤ c := h1
    omega
  ·unfold Con.p1 at hp
   rw [hk, nbltF hc, Bool.false_or] at hp
   obtain ⟨o, ho⟩ := posN_get hp
   rw [tn _ _ _ ho]
   simp only [ρ₁]
   rw [if_neg (by omega), show m.next + posN c C.new - m.next = posN c C.new by omega, ho]
   exact h
 have preG : ∀ c, c < k → ∃ p, C.pre[c]? = some p := fun c hc => ⟨C.pre[c]'(by omega), List.getElem?_eq_getElem _⟩
 have gOld : ∀ c p, C.pre[c]? = some p → p.live = true → σ c < m.next → ∃ o, C.old[c]? = some o ∧ (C.memG σ m).get (σ c) = some (o.ren τ) := by
  intro c p hp hpl hs
  have hc := (preO c p hp).2
  have hl : c < C.old.length := by omega
  refine ⟨C.old[c], List.getElem?_eq_getElem hl, ?_⟩
  unfold Con.memG
  rw [zEz _ _ _ (by rw [zDA]; exact hs)]
  have := setG_hit σ τ C.pre C.old 0 m (fun a b h1 h2 => hinj a b (by omega) (by omega)) c p _ hp hpl (List.getElem?_eq_getElem hl)
  rwa [Nat.zero_add] at this
 have gMiss : ∀ b, b < m.next → (∀ c p, C.pre[c]? = some p → p.live = true → b ≠ σ c) → (C.memG σ m).get b = m.get b := by
  intro b hb hc
  unfold Con.memG
  rw [zEz _ _ _ (by rw [zDA]; exact hb), zHa _ _ _ _ _ _ fun j p hj hp => by rw [Nat.zero_add]; exact hc j p hj hp]
 have gNew : ∀ (j c : Nat) (o : zAe), C.new[j]? = some (c, o) → (C.memG σ m).get (m.next + j) = some (o.ren τ) := by
  intro j c o h
  unfold Con.memG
  have := zIz τ C.new (setG σ τ 0 C.pre C.old m) j c o h
  rwa [zDA] at this
 have oldBel : ∀ (c : Nat) (o : zAe), C.old[c]? = some o → o.bel C.p1 = true := fun c o h => f4 o (List.mem_of_getElem? h)
 have kind : ∀ b i o, ρ₁ b = some i → (C.memG σ m).get b = some o → (ρ b = some i ∧ m.get b = some o ∧ ∀ c p, C.pre[c]? = some p → p.live = true → b ≠ σ c) ∨
   ∃ X u, ρ' X = some i ∧ m'.get X = some u ∧ u.bel C.p1 = true ∧ o = u.ren τ ∧ b = τ X ∧ ((X < k ∧ ρ (σ X) = some i ∧ b = σ X ∧ ∃ p, C.pre[X]? = some p ∧ p.live = true) ∨ u.wr = true) := by
  intro b i o h1 h2
  by_cases hb : b < m.next
  ·rw [q0 b hb] at h1
   by_cases hc : ∃ c p, C.pre[c]? = some p ∧ p.live = true ∧ b = σ c
   ·obtain ⟨c, p, hp, hpl, rfl⟩ := hc
    have hc := (preO c p hp).2
    obtain ⟨u, hu, hg⟩ := gOld c p hp hpl hb
    rw [hg] at h2
    cases h2
    exact .inr ⟨c, u, hx.ren _ _ (r1 c i hc h1), hold c u hu, oldBel c u hu, rfl, (tk c hc).symm, .inl ⟨hc, h1, rfl, p, hp, hpl⟩⟩
   ·have hc' : ∀ c p, C.pre[c]? = some p → p.live = true → b ≠ σ c := fun c p hp hpl e => hc ⟨c, p, hp, hpl, e⟩
    rw [gMiss b hb hc'] at h2
    exact .inl ⟨h1, h2, hc'⟩
  ·simp only [ρ₁] at h1
   rw [if_neg hb] at h1
   cases e : C.new[b - m.next]? with
   | none => rw [e] at h1; cases h1
   | some x =>
    obtain ⟨c, u⟩ := x
    rw [e] at h1
    have hg := gNew _ c u e
    rw [show m.next + (b - m.next) = b by omega] at hg
    rw [hg] at h2
    cases h2
    have h5 := f5 (c, u) (List.mem_of_getElem? e)
    exact .inr ⟨c, u, h1, hnew (c, u) (List.mem_of_getElem? e), h5.1.1, rfl, by rw [tn _ _ _ e]; omega, .inr h5.1.2⟩
 have wr_old : ∀ X i u, ρ' X = some i → m'.get X = some u → u.wr = true → i.b < w.heap.size → ∃ d j o, d < k ∧ ρ (σ d) = some j ∧ j.b = i.b ∧ C.pre[d]? = some o ∧ o.wr = true := by
  intro X i u h1 h2 h3 h4
  obtain ⟨d, j, o, e1, e2, e3, e4⟩ := hx.old X i u h1 h2 h3 h4
  rw [zDk] at e3
  obtain ⟨e5, e6⟩ := r0 d j e1
  exact ⟨d, j, o, e5, e6, e2, e3, e4⟩
 refine ⟨ρ₁, v', he, hv.fwd fwd f3, ⟨fun b i h => ?_, fun b i o h ho => ?_, fun b c i j o u hb hc hij ho hw hu hl => ?_⟩, ⟨hle, hx.size, ?_, fun b i h => ?_, fun q hq hro => ?_, fun b i o h ho hw hlt => ?_, hx.mute⟩⟩
 ·have hn : (C.memG σ m).next = m.next + C.new.length := by unfold Con.memG; rw [zFe, zDA]
  by_cases hb : b < m.next
  ·rw [q0 b hb] at h
   have := hm.lt b i h
   have := hx.size
   omega
  ·simp only [ρ₁] at h
   rw [if_neg hb] at h
   cases e : C.new[b - m.next]? with
   | none => rw [e] at h; cases h
   | some x =>
    rw [e] at h
    have h1 := (List.getElem?_eq_some_iff.1 e).1
    exact ⟨by omega, (hm'.lt _ _ h).2⟩
 ·rcases kind b i o h ho with ⟨h1, h2, h3⟩ | ⟨X, u, h1, h2, h3, rfl, h5, _⟩
  ·cases hl : o.live with
   | false => cases o <;> first | trivial | cases hl
   | true =>
    refine (hm.obj b i o h1 h2).mono hle (hx.keep i.b (hm.lt b i h1).2 fun c j u hc hj hu => ?_)
    rw [zDk] at hu
    obtain ⟨c1, c2⟩ := r0 c j hc
    cases hw : u.wr with
    | false => rfl
    | true =>
     have hul := liveW u hw
     have := hm.inj (σ c) b j i (u.ren σ) o c2 h1 hj (hpre c u hu hul) (by rw [zAe.ren_wr (preO c u hu).1]; exact hw) h2 hl
     exact absurd this.symm (h3 c u hu hul)
  ·exact (hm'.obj X i u h1 h2).fwd fwd h3
 ·rcases kind b i o hb ho with ⟨h1, h2, h3⟩ | ⟨X, x, h1, h2, h3, rfl, h5, h6⟩
  ·rcases kind c j u hc hu with ⟨g1, g2, g3⟩ | ⟨Z, z, g1, g2, g3, rfl, g5, g6⟩
   ·exact hm.inj b c i j o u h1 g1 hij h2 hw g2 hl
   ·rcases g6 with ⟨g7, g8, g9, po, hpo, hpl⟩ | g7
    ·have := hm.inj b (σ Z) i j o (po.ren σ) h1 g8 hij h2 hw (hpre Z po hpo hpl) (by rw [zAe.ren_live (preO Z po hpo).1]; exact hpl)
     exact absurd this (h3 Z po hpo hpl)
    ·obtain ⟨d, jj, po, e1, e2, e3, e4, e5⟩ := wr_old Z j z g1 g2 g7 (by rw [← hij]; exact (hm.lt b i h1).2)
     have := hm.inj b (σ d) i jj o (po.ren σ) h1 e2 (by rw [hij, e3]) h2 hw (hpre d po e4 (liveW po e5)) (by rw [zAe.ren_live (preO d po e4).1]; exact liveW po e5)
     exact absurd this (h3 d po e4 (liveW po e5))
  ·have hxw : x.wr = true := by rw [zAe.ren_wr h3] at hw; exact hw
   rcases kind c j u hc hu with ⟨g1, g2, g3⟩ | ⟨Z, z, g1, g2, g3, rfl, g5, g6⟩
   ·obtain ⟨d, jj, po, e1, e2, e3, e4, e5⟩ := wr_old X i x h1 h2 hxw (by rw [hij]; exact (hm.lt c j g1).2)
    have := hm.inj (σ d) c jj j (po.ren σ) u e2 g1 (by rw [e3, hij]) (hpre d po e4 (liveW po e5)) (by rw [zAe.ren_wr (preO d po e4).1]; exact e5) g2 hl
    exact absurd this.symm (g3 d po e4 (liveW po e5))
   ·have hzl : z.live = true := by rw [zAe.ren_live g3] at hl; exact hl
    have := hm'.inj X Z i j x z h1 g1 hij h2 hxw g2 hzl
    rw [h5, g5, this]
 ·unfold Con.memG; rw [zFe, zDA]; omega
 ·by_cases hb : b < m.next
  ·rw [q0 b hb] at h; exact .inl h
  ·exact .inr (by omega)
 ·refine hx.keep q hq fun c i o hc hi ho => ?_
  rw [zDk] at ho
  obtain ⟨c1, c2⟩ := r0 c i hc
  cases hl : o.live with
  | false => cases o <;> first | rfl | (cases hl)
  | true =>
   have := hro (σ c) i (o.ren σ) c2 hi (hpre c o ho hl)
   rwa [zAe.ren_wr (preO c o ho).1] at this
 ·rcases kind b i o h ho with ⟨h1, h2, h3⟩ | ⟨X, u, h1, h2, h3, rfl, h5, _⟩
  ·exact ⟨b, i, o, h1, rfl, h2, hw⟩
  ·obtain ⟨d, jj, po, e1, e2, e3, e4, e5⟩ := wr_old X i u h1 h2 (by rw [zAe.ren_wr h3] at hw; exact hw) hlt
   exact ⟨σ d, jj, po.ren σ, e2, e3, hpre d po e4 (liveW po e5), by rw [zAe.ren_wr (preO d po e4).1]; exact e5⟩
structure ConAtG (C : Con) (σ : Nat → Nat) (args : List V) (m : Mem) : Prop where
 wf : C.wfG = true
 args : args = zDr σ C.args
 inj : ∀ a b, a < C.pre.length → b < C.pre.length → σ a = σ b → a = b
 pre : ∀ c o, C.pre[c]? = some o → o.live = true → m.get (σ c) = some (o.ren σ)
def zAH (n : Nat) (S : Con → Prop) (last : CF Prop) : CF Prop := fun f args m K =>
 match f with
 | .func (.func g) [] [] => bif Nat.beq g n then ((∃ (C : Con) (σ : Nat → Nat), S C ∧ ConAtG C σ args m ∧ K (C.ans.ren (C.tau σ m.next)) (C.memG σ m)) ∨ last (.func (.func g) [] []) args m K) else last (.func (.func g) [] []) args m K
 | f => last f args m K
theorem zBQ {P : Program} {n : Nat} (hcl : zCm P n) {S : Con → Prop} (hS : ∀ C, S C → zAq P n C) {last : CF Prop} (hl : zAv P last id) : zAv P (zAH n S last) id := by
 intro ρ₀ ρ m w f f' args args' K hle hm hf ha hH
 unfold zAH at hH
 split at hH
 ·rename_i g
  by_cases e : g = n
  ·subst e
   rw [zCG rfl, cond_true] at hH
   rcases hH with ⟨C, σ, h1, h2, h3⟩ | hH
   ·cases hf with | func e1 e2 =>
    cases e1; cases e2
    refine .inl ⟨g, _, zC1 hcl _ _ w, ?_⟩
    rw [List.append_nil]
    rw [h2.args] at ha
    refine (con_useG (hS C h1) h2.wf hm h2.inj h2.pre ha).mono fun e w' ⟨ρ', v', he, hv, hm', hx⟩ => ?_
    subst he
    exact ⟨ρ', _, _, hv, hm', hx, h3⟩
   ·exact hl ρ₀ ρ m w _ f' args args' K hle hm hf ha hH
  ·rw [zAS e, cond_false] at hH
   exact hl ρ₀ ρ m w _ f' args args' K hle hm hf ha hH
 ·exact hl ρ₀ ρ m w f f' args args' K hle hm hf ha hH
theorem zBo {n : Nat} {S : Con → Prop} {last : CF Prop} (hl : zBi last) : zBi (zAH n S last) := by
 intro f args m K K' hk h
 unfold zAH at h ⊢
 split at h
 ·rename_i g
  cases e : Nat.beq g n with
  | true =>
   simp only [e, cond_true] at h ⊢
   rcases h with ⟨C, σ, h1, h2, h3⟩ | h
   ·exact .inl ⟨C, σ, h1, h2, hk _ _ h3⟩
   ·exact .inr (hl _ _ _ _ _ hk h)
  | false =>
   simp only [e, cond_false] at h ⊢
   exact hl _ _ _ _ _ hk h
 ·exact hl _ _ _ _ _ hk h
def preOkG (σ : Nat → Nat) (m : Mem) : Nat → List zAe → Prop
 | _, [] => True
 | i, o :: l => (o = .dead ∨ m.get (σ i) = some (o.ren σ)) ∧ preOkG σ m (i + 1) l
theorem zIv {σ : Nat → Nat} {m : Mem} : ∀ {l : List zAe} {i : Nat}, preOkG σ m i l → ∀ (c : Nat) (o : zAe), l[c]? = some o → o.live = true → m.get (σ (i + c)) = some (o.ren σ)
 | u :: l, i, h, 0, o, e, hl => by
  simp at e; subst e
  rcases h.1 with h | h
  ·subst h; cases hl
  ·exact h
 | u :: l, i, h, c + 1, o, e, hl => by
  have := zIv h.2 c o (by simpa using e) hl
  rwa [show i + 1 + c = i + (c + 1) by omega] at this
theorem conAtG_of {C : Con} {l : List Nat} {args : List V} {m : Mem} (h1 : C.wfG = true) (h2 : (zDj l && Nat.beq l.length C.pre.length) = true) (h3 : args = zDr (zAJ l) C.args) (h4 : preOkG (zAJ l) m 0 C.pre) : ConAtG C (zAJ l) args m := by
 simp only [Bool.and_eq_true] at h2
 have e := Nat.eq_of_beq_eq_true h2.2
 exact ⟨h1, h3, fun a b ha hb => zGS h2.1 a b (by omega) (by omega), fun c o h hl => by have := zIv h4 c o h hl; rwa [Nat.zero_add] at this⟩
theorem zCW {n : Nat} {S : Con → Prop} {last : CF Prop} {C : Con} {l : List Nat} {args : List V} {m m1 : Mem} {v : V} (hS : S C) (h1 : C.wfG = true) (h2 : (zDj l && Nat.beq l.length C.pre.length) = true) (h3 : args = zDr (zAJ l) C.args) (h4 : preOkG (zAJ l) m 0 C.pre)
  (hv : C.ans.ren (C.tau (zAJ l) m.next) = v) (hm : C.memG (zAJ l) m = m1) : zAw (zAH n S last) (.func (.func n) [] []) args m v m1 := by
 intro K hK
 unfold zAH
 simp only [Nat.beq_refl, cond_true]
 subst hv; subst hm
 exact .inl ⟨C, _, hS, conAtG_of h1 h2 h3 h4, hK⟩
theorem zAj {n g : Nat} {S : Con → Prop} {last : CF Prop} {args : List V} {m m1 : Mem} {v : V} (hg : Nat.beq g n = false) (h : zAw last (.func (.func g) [] []) args m v m1) : zAw (zAH n S last) (.func (.func g) [] []) args m v m1 := by
 intro K hK
 unfold zAH
 simp only [hg, cond_false]
 exact h K hK
theorem zBd {n g : Nat} {S : List V → Option V} {last : CF Prop} {args : List V} {m m1 : Mem} {v : V} (hg : Nat.beq g n = false) (h : zAw last (.func (.func g) [] []) args m v m1) : zAw (zAi n S last) (.func (.func g) [] []) args m v m1 := by
 intro K hK
 unfold zAi
 simp only [hg, cond_false]
 exact h K hK
end Go.AM
