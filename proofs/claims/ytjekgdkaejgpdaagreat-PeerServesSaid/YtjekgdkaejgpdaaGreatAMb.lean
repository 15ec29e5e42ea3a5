/- An abstract machine for the programs of the model, and that it is sound: part b. No condition: plain definitions and lemmas, used by the proof of this claim. -/
import Derived.ChangeSame
import Derived.ChangeStays
import Derived.Handed
import Derived.OpenShut
import Derived.RowKit
import Derived.ProofKit
import Derived.Test.YtjekgdkaejgpdaaGreatAMc
namespace Go.AM
open Go
section
variable {R : Type} {A : Ans R} {cf : CF R} {H : R → Prop} {P : Program} {nt : Nat} {lo : Nat} {ops : Array Oper} {aops : List zAO} {k : Nat}
variable {ρ₀ : Ren} {m₀ : Mem} {w₀ : World} {T0 : zAa} {N : Nat → Option Nat} {listed : Array Bool} {before : List Nat} {ρ : Ren} {T T' : zAa} {m : Mem} {a : Act} {w : World}
theorem zCR {i : Nat} (hi : i < listed.size) : (listed.setIfInBounds i true).getD i false = true := by
 simp [hi]
theorem zCt {i j : Nat} (h : (listed.setIfInBounds i true).getD j false = false) (hi : i < listed.size) : j ≠ i ∧ listed.getD j false = false := by
 by_cases e : i = j
 ·subst e; rw [zCR hi] at h; cases h
 ·rw [getD_set_ne false e] at h; exact ⟨fun h => e h.symm, h⟩
theorem Inv.caught (hd : zCJ ops aops k) (hal : ∀ i o, ops[i]? = some o → zBO P nt ops o (aops.getD i default)) (h : Inv lo P nt ops aops k ρ₀ m₀ w₀ T0 N listed before ρ T T' m a w)
  {i : Nat} {oi : Oper} (hi : i ∈ before) (hr : i ∈ Region.ready .any ops listed) (hoi : ops[i]? = some oi) {v : V} (hv : ∀ s, (aops.getD i default).dst = some s → T.get s = v)
  {ρ' : Ren} {a' : Act} {w' : World} (hat : At lo ρ₀ m₀ w₀ nt ρ' (zD7 (aops.getD i default).dst v T') m a' w')
  (hfr : ∀ j nx, j ∈ before → j ≠ i → listed.getD j false = false → N j = some nx → ρ' nx = none) :
  Inv lo P nt ops aops k ρ₀ m₀ w₀ T0 N (listed.setIfInBounds i true) before ρ' T (zD7 (aops.getD i default).dst v T') m a' w' := by
 have h512 := h.at'.sr.le
 have hok := hal i oi hoi
 have hik := h.lt i hi
 obtain ⟨his, hun⟩ := zBD h.size hr
 have his' : i < listed.size := by rw [h.size]; exact his
 refine ⟨by simp [h.size], fun j hj => ?_, h.lt, h.closed.set hr, h.bpre, hat, fun j oj d hj hl hoj hdj => ?_, fun t ht hno => ?_, h.ag3, fun j hj hl => ?_, fun j nx hj hl hN => ?_, fun j c nx hj hc hlj hlc hNj hNc => ?_⟩
 ·by_cases e : i = j
  ·subst e; exact hi
  ·rw [getD_set_ne false e] at hj; exact h.sub j hj
 ·by_cases e : i = j
  ·subst e
   have : oj = oi := Option.some.inj (hoj.symm.trans hoi)
   subst this
   rcases hok.dst with ⟨h1, _⟩ | ⟨n, h1, h2, h3⟩
   ·rw [h1] at hdj; cases hdj
   ·rw [h2] at hdj; cases hdj
    rw [h3, zDD]
    exact (hv _ h3).symm
  ·rw [getD_set_ne false e] at hl
   rw [← h.ag1 j oj d hj hl hoj hdj]
   by_cases hdn : d < nt
   ·apply zBA hd h512 hik hoi hok v T' hdn
    intro hdi
    exact e (hd.dst i j oi oj d hik hj hoi hoj hdi hdj)
   ·exfalso
    rcases (hal j oj hoj).dst with ⟨h1, _⟩ | ⟨n, h1, h2, _⟩
    ·rw [h1] at hdj; cases hdj
    ·rw [h2] at hdj; cases hdj; exact hdn h1
 ·have hne : oi.dst ≠ some t := by
   intro hdi
   have := hno i oi hik hoi hdi
   rw [zCR his'] at this; cases this
  rw [zBA hd h512 hik hoi hok v T' ht hne]
  refine h.ag2 t ht fun j oj hj hoj hdj => ?_
  exact (zCt (hno j oj hj hoj hdj) his').2
 ·exact h.pend j hj (zCt hl his').2
 ·obtain ⟨e, hl'⟩ := zCt hl his'
  have := h.fr j nx hj hl' hN
  exact ⟨hfr j nx hj e hl' hN, this.2⟩
 ·exact h.nj j c nx hj hc (zCt hlj his').2 (zCt hlc his').2 hNj hNc
theorem Inv.catch (hd : zCJ ops aops k) (hal : ∀ i o, ops[i]? = some o → zBO P nt ops o (aops.getD i default)) (h : Inv lo P nt ops aops k ρ₀ m₀ w₀ T0 N listed before ρ T T' m a w)
  {i : Nat} (hi : i ∈ before) (hr : i ∈ Region.ready .any ops listed) {Q : Exit → Act → World → Prop} {K : Act → World → Prop}
  (hK : ∀ ρ' T'' a' w', Inv lo P nt ops aops k ρ₀ m₀ w₀ T0 N (listed.setIfInBounds i true) before ρ' T T'' m a' w' → K a' w') {r : Option Nat} : wpOpIn (Fr r) 0 P ops Q i K a w := by
 obtain ⟨his, hun⟩ := zBD h.size hr
 have hoi : ops[i]? = some ops[i] := by simp [his]
 generalize hgo : ops[i] = oi at hoi
 have hok := hal i oi hoi
 have hik := h.lt i hi
 have hs := h.seen hd hik hr
 have hp := h.pend i hi hun
 unfold wpOpIn
 simp only [hoi, zDg hok h.at'.sr]
 cases hw : zAT (aops.getD i default) T' with
 | false =>
  simp only [Bool.false_eq_true, if_false]
  refine ⟨fun _ _ => trivial, ?_⟩
  exact hK ρ _ _ _ (h.caught hd hal hi hr hoi (v := .undef) (hp.skip T' hs hw) ⟨zFu hok h.at'.sr (VR.undef ρ), h.at'.mr, h.at'.ext, by rw [put_defers]; exact h.at'.df⟩
   (fun j nx hj _ hl hN => (h.fr j nx hj hl hN).1))
 | true =>
  simp only [if_true]
  refine ⟨fun _ _ => trivial, ?_⟩
  rw [Oper.semAt_eq _ _ _ hok.nodefer]
  have hop := hok.op
  cases hao : (aops.getD i default).op with
  | quiet r f =>
   rw [hao] at hop
   obtain ⟨v, h1, h2⟩ := hp.quiet T' hs hw r f hao
   obtain ⟨v', h3, h4⟩ := hop.1 ρ T' a m w v h.at'.sr h.at'.mr h1
   rw [h3]
   exact hK ρ _ _ _ (h.caught hd hal hi hr hoi h2 ⟨zFu hok h.at'.sr h4, h.at'.mr, h.at'.ext, by rw [put_defers]; exact h.at'.df⟩
    (fun j nx hj _ hl hN => (h.fr j nx hj hl hN).1))
  | alloc f =>
   rw [hao] at hop
   obtain ⟨nx, v, ob, h0, h1, h2, h3⟩ := hp.alloc T' hs hw f hao
   obtain ⟨v', ob', w', n, h4, h5, h6⟩ := hop.1 ρ T' a w nx v ob h.at'.sr h1
   obtain ⟨f1, f2, f3⟩ := h.fr i nx hi hun h0
   obtain ⟨h7, h8⟩ := h6 (ρ.put nx ⟨w.heap.size, n, 0, none⟩) (Ren.le_put f1) (Ren.put_self _ _ _)
   rw [h4]
   refine hK (ρ.put nx ⟨w.heap.size, n, 0, none⟩) _ _ _ (h.caught hd hal hi hr hoi h2 ⟨zFu hok (h.at'.sr.mono (Ren.le_put f1)) h7, h.at'.mr.alloc_late f3 f1 h3 h5 h8, h.at'.ext.late f2 f1 h5, by rw [put_defers]; exact h.at'.df.push h5⟩ ?_)
   intro j nx' hj e hl hN
   rw [Ren.put_ne]
   ·exact (h.fr j nx' hj hl hN).1
   ·rintro rfl
    exact e (h.nj j i _ hj hi hl hun hN h0)
  | loud f => have := hp.calm; rw [hao] at this; cases this
  | next it => have := hp.calm; rw [hao] at this; cases this
  | call f args => have := hp.calm; rw [hao] at this; cases this
end
end Go.AM
namespace Go.AM
open Go
section
variable {R : Type} {A : Ans R} {cf : CF R} {H : R → Prop} {P : Program} {nt : Nat} {lo : Nat} {ops : Array Oper} {aops : List zAO} {k : Nat}
variable {ρ₀ : Ren} {m₀ : Mem} {w₀ : World} {T0 : zAa} {N : Nat → Option Nat} {listed : Array Bool} {before : List Nat} {ρ : Ren} {T T' : zAa} {m : Mem} {a : Act} {w : World}
theorem oper1_agree {o : Oper} {ao : AOp} (hok : zCD P nt o ao) {T1 T2 : zAa} (h : Agree nt o.op T1 T2) (m : Mem) (K : V → Mem → R) : zCE A cf ao T1 m K = zCE A cf ao T2 m K := by
 cases ao with
 | quiet r f => simp only [zCE, hok.2.1 T1 T2 h]
 | alloc f => simp only [zCE, hok.2.1 T1 T2 h]
 | loud f => simp only [zCE, hok.2 T1 T2 h]
 | next it => simp only [zCE, hok.2 T1 T2 h]
 | call f args =>
  obtain ⟨h1, h2⟩ := hok.2 T1 T2 h
  simp only [zCE, h1, h2]
theorem Inv.loud (hd : zCJ ops aops k) (hal : ∀ i o, ops[i]? = some o → zBO P nt ops o (aops.getD i default)) (h : Inv lo P nt ops aops k ρ₀ m₀ w₀ T0 N listed before ρ T T' m a w)
  {i : Nat} {oi : Oper} (hi : i < k) (hib : i ∉ before) (hr : i ∈ Region.ready .any ops listed) (hoi : ops[i]? = some oi) {v : V} {ρ' : Ren} {m' : Mem} {a' : Act} {w' : World}
  (hat : At lo ρ₀ m₀ w₀ nt ρ' (zD7 (aops.getD i default).dst v T') m' a' w') (hext : Ext ρ m w ρ' m' w')
  (hag : m' = m ∨ ∀ j ∈ before, (aops.getD j default).op.asks = true → ((zBB ops).getD i 0).testBit j = false → zE9 T m m' (aops.getD j default) = true) :
  Inv lo P nt ops aops k ρ₀ m₀ w₀ T0 (fun j => if j = i then none else N j) (listed.setIfInBounds i true) (before ++ [i]) ρ' (zD7 (aops.getD i default).dst v T) (zD7 (aops.getD i default).dst v T') m' a' w' := by
 have h512 := h.at'.sr.le
 have hok := hal i oi hoi
 obtain ⟨his, hun⟩ := zBD h.size hr
 have his' : i < listed.size := by rw [h.size]; exact his
 have hne : ∀ j, j ∈ before → j ≠ i := fun j hj e => hib (e ▸ hj)
 have keepS : ∀ j, j ∈ before → ∀ s, (aops.getD j default).dst = some s → (zD7 (aops.getD i default).dst v T).get s = T.get s := by
  intro j hj s hs
  have hjk := h.lt j hj
  have hjs : j < ops.size := Nat.lt_of_lt_of_le hjk hd.le
  have hoj : ops[j]? = some ops[j] := by simp [hjs]
  obtain ⟨d, d1, d2, d3⟩ := dst_of (hal j _ hoj) hs
  subst d3
  apply zBA hd h512 hi hoi hok v T d1
  intro hdi
  exact hne j hj (hd.dst i j oi _ d hi hjk hoi hoj hdi d2).symm
 have back : ∀ j, j ∈ before ++ [i] → (listed.setIfInBounds i true).getD j false = false → j ∈ before ∧ j ≠ i ∧ listed.getD j false = false := by
  intro j hj hl
  obtain ⟨e, hl'⟩ := zCt hl his'
  rcases List.mem_append.1 hj with hj | hj
  ·exact ⟨hj, e, hl'⟩
  ·exact (e (List.mem_singleton.1 hj)).elim
 have notpre : ∀ j, listed.getD j false = false → ((zBB ops).getD i 0).testBit j = false := by
  intro j hl
  cases hb : ((zBB ops).getD i 0).testBit j with
  | false => rfl
  | true =>
   have := zDB h.closed hr hb
   rw [this] at hl; cases hl
 refine ⟨by simp [h.size], fun j hj => ?_, fun j hj => ?_, h.closed.set hr, fun j hj c hc hb => ?_, hat, fun j oj d hj hl hoj hdj => ?_, fun t ht hno => ?_, fun t ht hno => ?_, fun j hj hl => ?_, fun j nx hj hl hN => ?_, fun j c nx hj hc hlj hlc hNj hNc => ?_⟩
 ·by_cases e : i = j
  ·subst e; simp
  ·rw [getD_set_ne false e] at hj; exact List.mem_append_left _ (h.sub j hj)
 ·rcases List.mem_append.1 hj with hj | hj
  ·exact h.lt j hj
  ·rw [List.mem_singleton.1 hj]; exact hi
 ·rcases List.mem_append.1 hj with hj | hj
  ·exact List.mem_append_left _ (h.bpre j hj c hc hb)
  ·rw [List.mem_singleton.1 hj] at hb
   exact List.mem_append_left _ (h.sub c (zDB h.closed hr hb))
 ·by_cases e : i = j
  ·subst e
   have : oj = oi := Option.some.inj (hoj.symm.trans hoi)
   subst this
   rcases hok.dst with ⟨h1, _⟩ | ⟨n, h1, h2, h3⟩
   ·rw [h1] at hdj; cases hdj
   ·rw [h2] at hdj; cases hdj
    rw [h3, zDD, zDD]
  ·rw [getD_set_ne false e] at hl
   have hdi : oi.dst ≠ some d := fun hdi => e (hd.dst i j oi oj d hi hj hoi hoj hdi hdj)
   by_cases hdn : d < nt
   ·rw [zBA hd h512 hi hoi hok v T' hdn hdi, zBA hd h512 hi hoi hok v T hdn hdi]
    exact h.ag1 j oj d hj hl hoj hdj
   ·exfalso
    rcases (hal j oj hoj).dst with ⟨h1, _⟩ | ⟨n, h1, h2, _⟩
    ·rw [h1] at hdj; cases hdj
    ·rw [h2] at hdj; cases hdj; exact hdn h1
 ·have hne' : oi.dst ≠ some t := by
   intro hdi
   have := hno i oi hi hoi hdi
   rw [zCR his'] at this; cases this
  rw [zBA hd h512 hi hoi hok v T' ht hne']
  exact h.ag2 t ht fun j oj hj hoj hdj => (zCt (hno j oj hj hoj hdj) his').2
 ·rw [zBA hd h512 hi hoi hok v T ht (hno i oi (by simp) hoi)]
  exact h.ag3 t ht fun j oj hj hoj => hno j oj (List.mem_append_left _ hj) hoj
 ·obtain ⟨hjb, hji, hjl⟩ := back j hj hl
  have hp' := h.pend j hjb hjl
  have hjs : j < ops.size := Nat.lt_of_lt_of_le (h.lt j hjb) hd.le
  have hoj : ops[j]? = some ops[j] := by simp [hjs]
  have hokj := (hal j _ hoj).op
  have hw' : ∀ T1, Seen ops nt k j T T0 T1 → (aops.getD j default).op.asks = true → zAT (aops.getD j default) T = zAT (aops.getD j default) T1 :=
   fun T1 hs has => zCu (h.seenB hd hjb has) hs hoj (hal j _ hoj)
  refine ⟨hp'.calm, fun T1 hs hw s hds => ?_, fun T1 hs hw r f hf => ?_, fun T1 hs hw f hf => ?_⟩
  ·rw [keepS j hjb s hds]
   exact hp'.skip T1 (h.seen_put hd h512 hi hib hoi hok v hjb hs) hw s hds
  ·have hs' := h.seen_put hd h512 hi hib hoi hok v hjb hs
   obtain ⟨u, h1, h2⟩ := hp'.quiet T1 hs' hw r f hf
   refine ⟨u, ?_, fun s hds => by rw [keepS j hjb s hds]; exact h2 s hds⟩
   rcases hag with rfl | hag
   ·exact h1
   ·cases r with
    | false =>
     rw [hf] at hokj
     rw [hokj.2.2.1 rfl T1 m' m]; exact h1
    | true =>
     have has : (aops.getD j default).op.asks = true := by rw [hf]; rfl
     have hag' := hag j hjb has (notpre j hjl)
     unfold zE9 at hag'
     rw [hw' T1 hs' has, hw] at hag'
     simp only [cond_true, hf] at hag'
     cases hdj : (aops.getD j default).dst with
     | none => rw [hdj] at hag'; simp at hag'
     | some d =>
      rw [hdj] at hag'
      simp only at hag'
      rw [hf] at hokj
      have hfe := hokj.2.1 T T1 (zEv (h.seenB hd hjb has) hs' hoj)
      rw [hfe] at hag'
      cases hfm : f T1 m' with
      | none => rw [hfm] at hag'; cases hag'
      | some u' =>
       rw [hfm] at hag'
       simp only at hag'
       rw [V.eqB1_eq hag', h2 d hdj]
  ·have hs' := h.seen_put hd h512 hi hib hoi hok v hjb hs
   obtain ⟨nx, u, ob, h0, h1, h2, h3⟩ := hp'.alloc T1 hs' hw f hf
   refine ⟨nx, u, ob, by rw [if_neg hji]; exact h0, h1, fun s hds => by rw [keepS j hjb s hds]; exact h2 s hds, ?_⟩
   rcases hag with rfl | hag
   ·exact h3
   ·have has : (aops.getD j default).op.asks = true := by rw [hf]; rfl
    have hag' := hag j hjb has (notpre j hjl)
    unfold zE9 at hag'
    rw [hw' T1 hs' has, hw] at hag'
    simp only [cond_true, hf] at hag'
    cases hdj : (aops.getD j default).dst with
    | none => rw [hdj] at hag'; simp at hag'
    | some d =>
     rw [hdj] at hag'
     simp only [h2 d hdj] at hag'
     rw [hf] at hokj
     have fin : (match m.get nx, m'.get nx with | some x, some y => x.eqB y | _, _ => false) = true → m'.get nx = some ob := by
      intro hh
      rw [h3] at hh
      cases hm' : m'.get nx with
      | none => rw [hm'] at hh; cases hh
      | some y => rw [hm'] at hh; rw [zAe.eqB_eq hh]
     rcases hokj.2.2 T1 nx u ob h1 with ⟨off, rfl⟩ | ⟨a1, b1, c1, d1, rfl⟩ | rfl
     ·exact fin hag'
     ·exact fin hag'
     ·exact fin hag'
 ·obtain ⟨hjb, hji, hjl⟩ := back j hj hl
  simp only [if_neg hji] at hN
  obtain ⟨h1, h2, h3⟩ := h.fr j nx hjb hjl hN
  refine ⟨?_, h2, Nat.lt_of_lt_of_le h3 hext.next⟩
  cases e : ρ' nx with
  | none => rfl
  | some b =>
   rcases hext.fresh nx b e with h4 | h4
   ·rw [h1] at h4; cases h4
   ·omega
 ·obtain ⟨hjb, hji, hjl⟩ := back j hj hlj
  obtain ⟨hcb, hci, hcl⟩ := back c hc hlc
  simp only [if_neg hji] at hNj
  simp only [if_neg hci] at hNc
  exact h.nj j c nx hjb hcb hjl hcl hNj hNc
end
end Go.AM
namespace Go.AM
open Go
section
variable {R : Type} {A : Ans R} {cf : CF R} {H : R → Prop} {P : Program} {nt : Nat} {lo : Nat} {ops : Array Oper} {aops : List zAO} {k : Nat}
variable {ρ₀ : Ren} {m₀ : Mem} {w₀ : World} {T0 : zAa}
theorem any_suf {r : Option Nat} (hA : Holds A H) (hcf : zDM P cf H ρ₀) (hd : zCJ ops aops k) {Q : Exit → Act → World → Prop} {K : zAa → Mem → R}
  (hQ : ∀ (ρ : Ren) (T : zAa) (m : Mem) (a : Act) (w : World), At lo ρ₀ m₀ w₀ nt ρ T m a w → H (K T m) → Q .normal a w) :
  ∀ (l : List Oper) (al : List zAO) (t : Nat), zET (zBO P nt ops) l al → (∀ j, l[j]? = ops[t + j]?) → k ≤ t → ∀ (fuel : Nat) (listed : Array Bool) (ρ : Ren) (T : zAa) (m : Mem) (a : Act) (w : World),
   listed.size = ops.size → Closed ops listed → (∀ i, i < ops.size → (listed.getD i false = true ↔ i < t)) → cnt ops.size listed ≤ fuel →
   At lo ρ₀ m₀ w₀ nt ρ T m a w → H (opers A cf al T m K) → wpAnyIn (Fr r) 0 P .any ops Q fuel listed a w
 | [], _, t, .nil, hl, hk, fuel, listed, ρ, T, m, a, w, hs, hc, hi, hf, hat, h => by
  have hsz : ops.size ≤ t := by
   have := hl 0
   simp only [Nat.add_zero] at this
   exact Array.getElem?_eq_none_iff.1 this.symm
  have hr := not_ready (ops := ops) (listed := listed) fun i hi' => (hi i hi').2 (by omega)
  have hq := hQ ρ T m a w hat h
  cases fuel with
  | zero => exact ⟨hr, hq⟩
  | succ f => exact ⟨fun _ => hq, fun i hi' => by rw [hr] at hi'; cases hi'⟩
 | o :: l, ao :: al, t, .cons ho hl', hl, hk, fuel, listed, ρ, T, m, a, w, hs, hc, hi, hf, hat, h => by
  have hot : ops[t]? = some o := by simpa using (hl 0).symm
  have hts := (Array.getElem?_eq_some_iff.1 hot).1
  have htl : listed.getD t false = false := by
   cases hb : listed.getD t false with
   | false => rfl
   | true => have := (hi t hts).1 hb; omega
  cases fuel with
  | zero =>
   have := cnt_zero (Nat.le_zero.1 hf) t hts
   rw [htl] at this; cases this
  | succ f =>
   refine ⟨fun h0 => ?_, fun i hi' => ?_⟩
   ·have := zIL hd hs h0 t hts
    rw [htl] at this; cases this
   ·obtain ⟨his, hun⟩ := zBD hs hi'
    have hit : i = t := by
     rcases Nat.lt_trichotomy i t with h1 | h1 | h1
     ·have := (hi i his).2 h1
      rw [hun] at this; cases this
     ·exact h1
     ·have := zDB hc hi' (hd.suf i (by omega) his t h1)
      rw [htl] at this; cases this
    subst hit
    have hc' := hc.set hi'
    have hs' : (listed.setIfInBounds i true).size = ops.size := by simp [hs]
    have hi2 : ∀ j, j < ops.size → ((listed.setIfInBounds i true).getD j false = true ↔ j < i + 1) := by
     intro j hj
     by_cases e : i = j
     ·subst e
      rw [zCR (by omega)]
      simp
     ·rw [getD_set_ne false e, hi j hj]
      omega
    have hf' : cnt ops.size (listed.setIfInBounds i true) ≤ f := by
     have := cnt_set hs hts htl
     omega
    have hl2 : ∀ j, l[j]? = ops[i + 1 + j]? := by
     intro j
     have := hl (j + 1)
     simpa [Nat.add_assoc, Nat.add_comm 1 j] using this
    unfold wpOpIn
    simp only [hot, zDg ho hat.sr]
    simp only [opers] at h
    cases hw : zAT ao T with
    | true =>
     rw [hw] at h
     simp only [cond_true] at h
     simp only [if_true]
     refine (zHn hA hcf ho.nodefer ho.op hat.sr hat.mr hat.ext.ren h fun ρ' v v' m' w' h1 h2 h3 h4 => ?_)
     exact any_suf hA hcf hd hQ l al (i + 1) hl' hl2 (by omega) f _ ρ' _ m' _ w' hs' hc' hi2 hf' ⟨zFu ho (hat.sr.mono h3.ren) h1, h2, hat.ext.trans h3, by rw [put_defers]; exact hat.df.ext hat.mr h3⟩ h4
    | false =>
     rw [hw] at h
     simp only [cond_false] at h
     simp only [Bool.false_eq_true, if_false]
     refine ⟨fun _ _ => trivial, ?_⟩
     exact any_suf hA hcf hd hQ l al (i + 1) hl' hl2 (by omega) f _ ρ _ m _ w hs' hc' hi2 hf' ⟨zFu ho hat.sr (VR.undef ρ), hat.mr, hat.ext, by rw [put_defers]; exact hat.df⟩ h
theorem mayB_iff {pre : List Nat} {before : List Nat} {i : Nat} : mayB pre k before i = true ↔ ∀ j, j < k → (pre.getD i 0).testBit j = true → j ∈ before := by
 simp only [mayB, List.all_eq_true, List.mem_range, Bool.or_eq_true, Bool.not_eq_true', zDl]
 constructor
 ·intro h j hj hb
  rcases h j hj with h1 | h1
  ·rw [hb] at h1; cases h1
  ·exact h1
 ·intro h j hj
  cases hb : (pre.getD i 0).testBit j with
  | false => exact .inl rfl
  | true => exact .inr (h j hj hb)
def OT.calmB : OT → Bool
 | .calm _ _ => true
 | _ => false
theorem zHq {i : Nat} {l : List Nat} (h : (!memB i l) = true) : i ∉ l := by
 intro hm
 rw [zDl.2 hm] at h; cases h
variable {N : Nat → Option Nat} {listed : Array Bool} {before : List Nat} {ρ : Ren} {T T' : zAa} {m : Mem} {a : Act} {w : World}
theorem Inv.seen_self (hd : zCJ ops aops k) (hal : ∀ i o, ops[i]? = some o → zBO P nt ops o (aops.getD i default)) (h : Inv lo P nt ops aops k ρ₀ m₀ w₀ T0 N listed before ρ T T' m a w) {i : Nat} {oi : Oper} (hi : i < k) (hib : i ∉ before) (hoi : ops[i]? = some oi)
  (hmay : ∀ j, j < k → ((zBB ops).getD i 0).testBit j = true → j ∈ before) (v : V) {T1 : zAa} (hs : Seen ops nt k i (zD7 (aops.getD i default).dst v T) T0 T1) : Seen ops nt k i T T0 T1 := by
 intro o ho t ht hlt
 obtain ⟨h1, h2⟩ := hs o ho t ht hlt
 refine ⟨fun he => ?_, h2⟩
 rw [h1 he]
 obtain ⟨i', oi', hi', hb, hoi', hdi'⟩ := he
 apply zBA hd h.at'.sr.le hi hoi (hal i oi hoi) v T hlt
 intro hdi
 have := hd.dst i i' oi oi' t hi hi' hoi hoi' hdi hdi'
 subst this
 exact hib (hmay _ hi' hb)
theorem zH4 (hA : Holds A H) (hd : zCJ ops aops k) (hal : ∀ i o, ops[i]? = some o → zBO P nt ops o (aops.getD i default)) {K : zAa → Mem → R} :
  ∀ (t : OT) (N : Nat → Option Nat) (before : List Nat) (T : zAa) (m : Mem), Inv lo P nt ops aops k ρ₀ m₀ w₀ T0 N listed before ρ T T' m a w → zB4 aops (zBB ops) k before [] t = true →
   H (drawn A cf (zBr aops (zBB ops) before t) T m K) →
   ∃ (N' : Nat → Option Nat) (before' : List Nat) (t' : OT) (T'' : zAa) (m' : Mem), Inv lo P nt ops aops k ρ₀ m₀ w₀ T0 N' listed before' ρ T'' T' m' a w ∧ zB4 aops (zBB ops) k before' [] t' = true ∧
    H (drawn A cf (zBr aops (zBB ops) before' t') T'' m' K) ∧ t'.calmB = false
 | .fin, N, before, T, m, h, hc, hH => ⟨N, before, .fin, T, m, h, hc, hH, rfl⟩
 | .last i t, N, before, T, m, h, hc, hH => ⟨N, before, .last i t, T, m, h, hc, hH, rfl⟩
 | .fork i t o, N, before, T, m, h, hc, hH => ⟨N, before, .fork i t o, T, m, h, hc, hH, rfl⟩
 | .calm i t, N, before, T, m, h, hc, hH => by
  simp only [zB4, Bool.and_eq_true, Bool.not_eq_true'] at hc
  obtain ⟨⟨⟨⟨h1, h2⟩, h3⟩, h4⟩, h5⟩ := hc
  have hi := zAV.1 h1
  have hib : i ∉ before := zHq (by simp [h2])
  have hmay := mayB_iff.1 h3
  have his : i < ops.size := Nat.lt_of_lt_of_le hi hd.le
  have hoi : ops[i]? = some ops[i] := by simp [his]
  generalize hgo : ops[i] = oi at hoi
  have hok := hal i oi hoi
  have hsA := h.seenA hd hi hib
  simp only [zBr, drawn] at hH
  have toT : ∀ v T1, Seen ops nt k i (zD7 (aops.getD i default).dst v T) T0 T1 → Seen ops nt k i T T0 T1 := fun v T1 hs => h.seen_self hd hal hi hib hoi hmay v hs
  cases hw : zAT (aops.getD i default) T with
  | false =>
   rw [hw] at hH
   simp only [cond_false] at hH
   refine zH4 hA hd hal t _ _ _ _ (h.ahead hd hal hi hib hoi hmay .undef (.inl rfl) none (.inl rfl) ⟨h4, ?_, ?_, ?_⟩) h5 hH
   ·intro T1 hs _ s hds
    rw [hds, zDD]
   ·intro T1 hs hw1
    rw [zCu (toT _ _ hs) hsA hoi hok, hw] at hw1; cases hw1
   ·intro T1 hs hw1
    rw [zCu (toT _ _ hs) hsA hoi hok, hw] at hw1; cases hw1
  | true =>
   rw [hw] at hH
   simp only [cond_true] at hH
   cases hfb : freshB m (aops.getD i default).op with
   | false => rw [hfb] at hH; exact (hA.fail hH).elim
   | true =>
    rw [hfb] at hH
    simp only [cond_true] at hH
    have hop := hok.op
    cases hao : (aops.getD i default).op with
    | quiet r f =>
     rw [hao] at hH hop
     simp only [zCE] at hH
     cases hf : f T m with
     | none => rw [hf] at hH; exact (hA.fail hH).elim
     | some v =>
      rw [hf] at hH
      simp only at hH
      refine zH4 hA hd hal t _ _ _ _ (h.ahead hd hal hi hib hoi hmay v (.inl rfl) none (.inl rfl) ⟨h4, ?_, ?_, ?_⟩) h5 hH
      ·intro T1 hs hw1
       rw [zCu (toT _ _ hs) hsA hoi hok, hw] at hw1; cases hw1
      ·intro T1 hs hw1 r' f' hf'
       rw [hao] at hf'
       cases hf'
       refine ⟨v, ?_, fun s hds => by rw [hds, zDD]⟩
       rw [hop.2.1 T1 T (zEv (toT _ _ hs) hsA hoi)]
       exact hf
      ·intro T1 hs hw1 f' hf'
       rw [hao] at hf'; cases hf'
    | alloc f =>
     rw [hao] at hH hop hfb
     simp only [zCE] at hH
     cases hf : f T m.next with
     | none => rw [hf] at hH; exact (hA.fail hH).elim
     | some vo =>
      obtain ⟨v, ob⟩ := vo
      rw [hf] at hH
      simp only at hH
      have hfr : m.get m.next = none := by
       simp only [freshB] at hfb
       cases e : m.get m.next with
       | none => rfl
       | some _ => rw [e] at hfb; cases hfb
      refine zH4 hA hd hal t _ _ _ _ (h.ahead hd hal hi hib hoi hmay v (.inr ⟨ob, rfl, hfr⟩) (some m.next) (.inr ⟨rfl, rfl⟩) ⟨h4, ?_, ?_, ?_⟩) h5 hH
      ·intro T1 hs hw1
       rw [zCu (toT _ _ hs) hsA hoi hok, hw] at hw1; cases hw1
      ·intro T1 hs hw1 r' f' hf'
       rw [hao] at hf'; cases hf'
      ·intro T1 hs hw1 f' hf'
       rw [hao] at hf'
       cases hf'
       refine ⟨m.next, v, ob, by simp, ?_, fun s hds => by rw [hds, zDD], by simp⟩
       rw [hop.2.1 T1 T (zEv (toT _ _ hs) hsA hoi)]
       exact hf
    | loud f => rw [hao] at h4; cases h4
    | next it => rw [hao] at h4; cases h4
    | call f args => rw [hao] at h4; cases h4
end
end Go.AM
namespace Go.AM
open Go
section
variable {R : Type} {A : Ans R} {cf : CF R} {H : R → Prop} {P : Program} {nt : Nat} {lo : Nat} {ops : Array Oper} {aops : List zAO} {k : Nat}
variable {ρ₀ : Ren} {m₀ : Mem} {w₀ : World} {T0 : zAa}
variable {N : Nat → Option Nat} {listed : Array Bool} {before : List Nat} {ρ : Ren} {T T' : zAa} {m : Mem} {a : Act} {w : World}
def loud1 (A : Ans R) (cf : CF R) (d : DItem) (t : DT) (T : zAa) (m : Mem) (K : zAa → Mem → R) : R :=
 bif zAT d.o T then zCE A cf d.o.op T m fun v m' => bif d.again.all (zE9 T m m') then drawn A cf t (zD7 d.o.dst v T) m' K else A.fail
 else drawn A cf t (zD7 d.o.dst .undef T) m K
theorem pick_alt (hA : Holds A H) {i : Nat} (hi : i < k) (hib : i ∉ before) (hmay : mayB (zBB ops) k before i = true) {K : zAa → Mem → R} : ∀ (t : OT) (alts : List Nat), t.calmB = false → i ∉ alts →
  zB4 aops (zBB ops) k before alts t = true → H (drawn A cf (zBr aops (zBB ops) before t) T m K) →
  ∃ t', zB4 aops (zBB ops) k (before ++ [i]) [] t' = true ∧ H (loud1 A cf (zEL aops (zBB ops) before i) (zBr aops (zBB ops) (before ++ [i]) t') T m K)
 | .fin, [], _, _, hc, hH => by
  simp only [zB4, List.all_eq_true, List.mem_range] at hc
  exact (hib (zDl.1 (hc i hi))).elim
 | .fin, _ :: _, _, _, hc, hH => by simp [zB4] at hc
 | .calm _ _, _, hn, _, _, _ => by cases hn
 | .last j t, alts, _, hia, hc, hH => by
  simp only [zB4, Bool.and_eq_true, List.all_eq_true, List.mem_range] at hc
  obtain ⟨⟨⟨_, h4⟩, h5⟩, h6⟩ := hc
  have := h5 i hi
  simp only [Bool.or_eq_true, zDl, hmay, Bool.not_true, Bool.false_eq_true, or_false, List.mem_cons] at this
  rcases this with h | h | h
  ·exact (hib h).elim
  ·subst h
   exact ⟨t, h6, hH⟩
  ·exact (hia h).elim
 | .fork j t o, alts, _, hia, hc, hH => by
  simp only [zB4, Bool.and_eq_true] at hc
  obtain ⟨⟨_, h5⟩, h6⟩ := hc
  obtain ⟨g1, g2⟩ := hA.both _ _ hH
  by_cases e : i = j
  ·subst e
   exact ⟨t, h5, g1⟩
  ·have hn : o.calmB = false := by
    cases o with
    | calm _ _ => simp [zB4] at h6
    | _ => rfl
   exact pick_alt hA hi hib hmay o (j :: alts) hn (by simp [e, hia]) h6 g2
theorem head_new {t : OT} (hn : t.calmB = false) (hc : zB4 aops (zBB ops) k before [] t = true) (hall : ∀ j, j < k → j ∈ before) : t = .fin := by
 cases t with
 | fin => rfl
 | calm _ _ => cases hn
 | last j t =>
  simp only [zB4, Bool.and_eq_true, Bool.not_eq_true'] at hc
  obtain ⟨⟨⟨⟨⟨h1, h2⟩, _⟩, _⟩, _⟩, _⟩ := hc
  have := zDl.2 (hall j (zAV.1 h1))
  rw [this] at h2; cases h2
 | fork j t o =>
  simp only [zB4, Bool.and_eq_true, Bool.not_eq_true'] at hc
  obtain ⟨⟨⟨⟨⟨h1, h2⟩, _⟩, _⟩, _⟩, _⟩ := hc
  have := zDl.2 (hall j (zAV.1 h1))
  rw [this] at h2; cases h2
theorem zGE {r : Option Nat} (hA : Holds A H) (hcf : zDM P cf H ρ₀) (hd : zCJ ops aops k) (hal : ∀ i o, ops[i]? = some o → zBO P nt ops o (aops.getD i default)) {suf : List zAO} (hsuf : zET (zBO P nt ops) (ops.toList.drop k) suf)
  {Q : Exit → Act → World → Prop} {K : zAa → Mem → R} (hQ : ∀ (ρ : Ren) (T : zAa) (m : Mem) (a : Act) (w : World), At lo ρ₀ m₀ w₀ nt ρ T m a w → H (K T m) → Q .normal a w)
  (fuel : Nat) {t : OT} (hall : ∀ j, j < k → listed.getD j false = true) (hf : cnt ops.size listed ≤ fuel)
  (h : Inv lo P nt ops aops k ρ₀ m₀ w₀ T0 N listed before ρ T T' m a w) (hc : zB4 aops (zBB ops) k before [] t = true)
  (hH : H (drawn A cf (zBr aops (zBB ops) before t) T m fun T m => opers A cf suf T m K)) : wpAnyIn (Fr r) 0 P .any ops Q fuel listed a w := by
 obtain ⟨N, before, t, T, m, h, hc, hH, hn⟩ := zH4 hA hd hal t N before T m h hc hH
 have ht := head_new hn hc fun j hj => h.sub j (hall j hj)
 subst ht
 simp only [zBr, drawn] at hH
 have hsr : SR ρ nt T a.tmps := by
  refine ⟨h.at'.sr.size, h.at'.sr.le, fun n hn => ?_⟩
  have hv := h.at'.sr.get n hn
  by_cases he : ∃ i oi, i < k ∧ ops[i]? = some oi ∧ oi.dst = some n
  ·obtain ⟨i, oi, hi, hoi, hdi⟩ := he
   rw [h.ag1 i oi n hi (hall i hi) hoi hdi] at hv
   exact hv
  ·have e1 := h.ag2 n hn fun i oi hi hoi hdi => (he ⟨i, oi, hi, hoi, hdi⟩).elim
   have e2 := h.ag3 n hn fun i oi hi hoi hdi => he ⟨i, oi, h.lt i hi, hoi, hdi⟩
   rw [e1, ← e2] at hv
   exact hv
 refine any_suf hA hcf hd hQ (ops.toList.drop k) suf k hsuf (fun j => by simp [List.getElem?_drop]) (Nat.le_refl _) fuel listed ρ T m a w h.size h.closed (fun i hi => ⟨fun hl => h.lt i (h.sub i hl), fun hl => hall i hl⟩) hf ⟨hsr, h.at'.mr, h.at'.ext, h.at'.df⟩ hH
theorem any_main {r : Option Nat} (hA : Holds A H) (hcf : zDM P cf H ρ₀) (hd : zCJ ops aops k) (hal : ∀ i o, ops[i]? = some o → zBO P nt ops o (aops.getD i default)) {suf : List zAO} (hsuf : zET (zBO P nt ops) (ops.toList.drop k) suf)
  {Q : Exit → Act → World → Prop} {K : zAa → Mem → R} (hQ : ∀ (ρ : Ren) (T : zAa) (m : Mem) (a : Act) (w : World), At lo ρ₀ m₀ w₀ nt ρ T m a w → H (K T m) → Q .normal a w) :
  ∀ (fuel : Nat) (listed : Array Bool) (ρ : Ren) (T' : zAa) (a : Act) (w : World) (N : Nat → Option Nat) (before : List Nat) (t : OT) (T : zAa) (m : Mem), cnt ops.size listed ≤ fuel →
   Inv lo P nt ops aops k ρ₀ m₀ w₀ T0 N listed before ρ T T' m a w → zB4 aops (zBB ops) k before [] t = true →
   H (drawn A cf (zBr aops (zBB ops) before t) T m fun T m => opers A cf suf T m K) → wpAnyIn (Fr r) 0 P .any ops Q fuel listed a w := by
 intro fuel
 induction fuel with
 | zero =>
  intro listed ρ T' a w N before t T m hf h hc hH
  exact zGE hA hcf hd hal hsuf hQ 0 (fun j hj => cnt_zero (Nat.le_zero.1 hf) j (Nat.lt_of_lt_of_le hj hd.le)) hf h hc hH
 | succ f ih =>
  intro listed ρ T' a w N before t T m hf h hc hH
  by_cases hall : ∀ j, j < k → listed.getD j false = true
  ·exact zGE hA hcf hd hal hsuf hQ (f + 1) hall hf h hc hH
  ·obtain ⟨N, before, t, T, m, h, hc, hH, hn⟩ := zH4 hA hd hal t N before T m h hc hH
   refine ⟨fun h0 => (hall fun j hj => zIL hd h.size h0 j (Nat.lt_of_lt_of_le hj hd.le)).elim, fun i hr => ?_⟩
   obtain ⟨his, hun⟩ := zBD h.size hr
   have hik : i < k := by
    rcases Nat.lt_or_ge i k with h' | h'
    ·exact h'
    ·exact (hall fun j hj => zDB h.closed hr (hd.suf i h' his j (by omega))).elim
   have hf' : cnt ops.size (listed.setIfInBounds i true) ≤ f := by
    have := cnt_set h.size his hun
    omega
   by_cases hib : i ∈ before
   ·exact h.catch hd hal hib hr fun ρ' T'' a' w' h' => ih _ ρ' T'' a' w' N before t T m hf' h' hc hH
   ·have hmay : mayB (zBB ops) k before i = true := mayB_iff.2 fun j hj hb => h.sub j (zDB h.closed hr hb)
    obtain ⟨t', hc', hH'⟩ := pick_alt hA hik hib hmay t [] hn (by simp) hc hH
    have hoi : ops[i]? = some ops[i] := by simp [his]
    generalize hgo : ops[i] = oi at hoi
    have hok := hal i oi hoi
    have hs1 := h.seen hd hik hr
    have hs2 := h.seenA hd hik hib
    unfold wpOpIn
    simp only [hoi, zDg hok h.at'.sr]
    rw [zCu hs1 hs2 hoi hok]
    unfold loud1 at hH'
    have ed : (zEL aops (zBB ops) before i).o = aops.getD i default := rfl
    rw [ed] at hH'
    cases hw : zAT (aops.getD i default) T with
    | false =>
     rw [hw] at hH'
     simp only [cond_false] at hH'
     simp only [Bool.false_eq_true, if_false]
     refine ⟨fun _ _ => trivial, ?_⟩
     exact ih _ ρ _ _ w _ _ t' _ m hf' (h.loud hd hal hik hib hr hoi (v := .undef) (ρ' := ρ) (m' := m) ⟨zFu hok h.at'.sr (VR.undef ρ), h.at'.mr, h.at'.ext, by rw [put_defers]; exact h.at'.df⟩ (Ext.refl ρ m w) (.inl rfl)) hc' hH'
    | true =>
     rw [hw] at hH'
     simp only [cond_true] at hH'
     simp only [if_true]
     rw [oper1_agree hok.op (zEv hs2 hs1 hoi)] at hH'
     refine zHn hA hcf hok.nodefer hok.op h.at'.sr h.at'.mr h.at'.ext.ren hH' fun ρ' v v' m' w' h1 h2 h3 h4 => ?_
     cases hag : (zEL aops (zBB ops) before i).again.all (zE9 T m m') with
     | false => rw [hag] at h4; exact (hA.fail h4).elim
     | true =>
      rw [hag] at h4
      simp only [cond_true] at h4
      refine ih _ ρ' _ _ w' _ _ t' _ m' hf' (h.loud hd hal hik hib hr hoi (v := v) (ρ' := ρ') (m' := m') ⟨zFu hok (h.at'.sr.mono h3.ren) h1, h2, h.at'.ext.trans h3, by rw [put_defers]; exact h.at'.df.ext h.at'.mr h3⟩ h3 (.inr fun j hj has hb => ?_)) hc' h4
      simp only [zEL, List.all_eq_true, List.mem_map, List.mem_filter] at hag
      exact hag _ ⟨j, ⟨hj, by rw [has, hb]; rfl⟩, rfl⟩
theorem draw_sound {r : Option Nat} (hA : Holds A H) (hcf : zDM P cf H ρ₀) (hmix : P.follows .mixedOrders = true) (hd : zCJ ops aops k) (hal : ∀ i o, ops[i]? = some o → zBO P nt ops o (aops.getD i default)) {suf : List zAO} (hsuf : zET (zBO P nt ops) (ops.toList.drop k) suf)
  {Q : Exit → Act → World → Prop} {K : zAa → Mem → R} (hQ : ∀ (ρ : Ren) (T : zAa) (m : Mem) (a : Act) (w : World), At lo ρ₀ m₀ w₀ nt ρ T m a w → H (K T m) → Q .normal a w) {id : Nat} {t : OT}
  (hat : At lo ρ₀ m₀ w₀ nt ρ T m a w) (hc : zB4 aops (zBB ops) k [] [] t = true) (hH : H (drawn A cf (zBr aops (zBB ops) [] t) T m fun T m => opers A cf suf T m K)) : (Code.region id ops true).wpIn (Fr r) 0 P Q a w := by
 refine wpIn_region_any hmix ?_
 have hat' : At lo ρ m w nt ρ T m a { w with drawn := w.drawn + 1 } := ⟨hat.sr, hat.mr.heap rfl, Ext.heap rfl ⟨rfl, rfl⟩, hat.df⟩
 have hempty : ∀ i, (Array.replicate ops.size false).getD i false = false := by
  intro i
  by_cases hi : i < ops.size
  ·simp [hi]
  ·simp [hi]
 have hno : ∀ i, (Array.replicate ops.size false).getD i false = true → False := by
  intro i hi
  rw [hempty] at hi; cases hi
 have hinv : Inv lo P nt ops aops k ρ m w T (fun _ => none) (Array.replicate ops.size false) [] ρ T T m a { w with drawn := w.drawn + 1 } :=
  ⟨by simp, fun i hi => (hno i hi).elim, fun i hi => (List.not_mem_nil hi).elim, fun i o hi => (hno i hi).elim, fun j hj => (List.not_mem_nil hj).elim, hat', fun i oi d hi hl => (hno i hl).elim, fun _ _ _ => rfl, fun _ _ _ => rfl,
   fun j hj => (List.not_mem_nil hj).elim, fun j nx hj => (List.not_mem_nil hj).elim, fun i j nx hi => (List.not_mem_nil hi).elim⟩
 refine any_main (ρ₀ := ρ) (m₀ := m) (w₀ := w) hA (hcf.mono hat.ext.ren) hd hal hsuf (K := K) (fun ρ' T' m' a' w' hat'' hK => hQ ρ' T' m' a' w' ⟨hat''.sr, hat''.mr, hat.ext.trans hat''.ext, hat''.df⟩ hK) ops.size _ ρ T a _ _ [] t T m ?_ hinv hc hH
 unfold cnt
 exact Nat.le_trans List.countP_le_length (by simp)
end
end Go.AM
namespace Go.AM
open Go
section
variable {R : Type} {A : Ans R} {cf : CF R} {cfy : Ys R → CF R} {H : R → Prop} {P : Program} {nt : Nat} {lo : Nat}
variable {ρ₀ : Ren} {m₀ : Mem} {w₀ : World} {r : Option Nat}
def zCd (w w' : World) : Prop := zH8 w w' ∧ ∀ k, k < w.heap.size → w'.heap[k]? = w.heap[k]?
theorem zCd.refl (w : World) : zCd w w := ⟨zH8.refl w, fun _ _ => rfl⟩
theorem zCd.size {w w' : World} (h : zCd w w') : w.heap.size ≤ w'.heap.size := by
 rcases Nat.lt_or_ge w'.heap.size w.heap.size with h1 | h1
 ·have h2 := h.2 w'.heap.size h1
  rw [Array.getElem?_eq_none (Nat.le_refl _)] at h2
  simp [h1] at h2
 ·exact h1
theorem zCd.trans {a b c : World} (h : zCd a b) (h' : zCd b c) : zCd a c :=
 ⟨h.1.trans h'.1, fun k hk => by rw [h'.2 k (Nat.lt_of_lt_of_le hk h.size), h.2 k hk]⟩
theorem zCd.push {w w' : World} {o : Obj} (h : Push w w' o) : zCd w w' := ⟨h.2, fun k hk => by rw [h.1, Array.getElem?_push, if_neg (by omega)]⟩
theorem MR.stays {ρ : Ren} {m : Mem} {w w' : World} (h : MR ρ m w) (hs : zCd w w') : MR ρ m w' where
 lt := fun b i hb => ⟨(h.lt b i hb).1, Nat.lt_of_lt_of_le (h.lt b i hb).2 hs.size⟩
 obj := fun b i o hb ho => (h.obj b i o hb ho).mono ρ.le_refl (hs.2 _ (h.lt b i hb).2)
 inj := h.inj
theorem Ext.of_stays {ρ : Ren} {m : Mem} {w w' : World} (hs : zCd w w') : Ext ρ m w ρ m w' where
 ren := ρ.le_refl
 size := hs.size
 next := Nat.le_refl _
 fresh := fun _ _ h => .inl h
 keep := fun k hk _ => hs.2 k hk
 old := fun b i o h1 h2 h3 _ => ⟨b, i, o, h1, rfl, h2, h3⟩
 mute := hs.1
def Ex.to : Ex → Exit
 | .normal => .normal
 | .exit id => .exit id
 | .ret => .ret
theorem zET.get {α β : Type} {S : α → β → Prop} : ∀ {l : List α} {k : List β}, zET S l k → ∀ (i : Nat) (x : α), l[i]? = some x → ∃ y, k[i]? = some y ∧ S x y
 | _, _, .nil, i, x, h => by simp at h
 | _, _, .cons hx _, 0, x, h => by simp at h; subst h; exact ⟨_, rfl, hx⟩
 | _, _, .cons _ hl, i + 1, x, h => by simpa using zET.get hl i x (by simpa using h)
theorem zET.drop {α β : Type} {S : α → β → Prop} : ∀ {l : List α} {k : List β} (n : Nat), zET S l k → zET S (l.drop n) (k.drop n)
 | _, _, 0, h => h
 | _, _, _ + 1, .nil => .nil
 | _, _, n + 1, .cons _ hl => by simpa using zET.drop n hl
theorem zGM (hA : Holds A H) (hcf : zDM P cf H ρ₀) (hmix : P.follows .mixedOrders = true) {ops : Array Oper} {d : Bool} {ac : zAz} (h : zC0 P nt ops d = some ac) {Y : Ys R} (hcfe : cf = cfy Y) {id : Nat} {Q : Exit → Act → World → Prop} {K : Ex → zAa → Mem → R}
  (hQ : ∀ (ρ : Ren) (T : zAa) (m : Mem) (a : Act) (w : World), At lo ρ₀ m₀ w₀ nt ρ T m a w → H (K .normal T m) → Q .normal a w) {ρ : Ren} {T : zAa} {m : Mem} {a : Act} {w : World}
  (hat : At lo ρ₀ m₀ w₀ nt ρ T m a w) (hH : H (code A cfy Y ac T m K)) : (Code.region id ops d).wpIn (Fr r) 0 P Q a w := by
 unfold zC0 at h
 split at h
 ·cases h
 ·rename_i aops hc
  have hl := zEl hc
  cases d with
  | false =>
   simp only [Bool.not_false, cond_true, Option.some.injEq] at h
   subst h
   simp only [code, ← hcfe] at hH
   exact region_sound hA hcf hl hQ hat hH
  | true =>
   simp only [Bool.not_true, cond_false] at h
   obtain ⟨h1, h2⟩ := zAF h
   simp only [Bool.and_eq_true] at h1
   obtain ⟨h1, h3⟩ := h1
   simp only [Option.some.injEq] at h2
   subst h2
   simp only [code, ← hcfe] at hH
   refine draw_sound hA hcf hmix (zJi h1) (fun i o ho => ?_) (hl.drop _) hQ hat h3 hH
   obtain ⟨y, hy, hs⟩ := hl.get i o (by simpa using ho)
   rw [List.getD_eq_getElem?_getD, hy]
   exact hs
def roundsIn (F : Fence) (P : Program) (c : Code) (Q : Exit → Act → World → Prop) : Nat → Act → World → Prop
 | 0, _, _ => False
 | n + 1, a, w => c.wpIn F 0 P (Exit.then (roundsIn F P c Q n) Q) a w
theorem wpIn_loop_rounds {F : Fence} {Q : Exit → Act → World → Prop} {a : Act} {w : World} {c : Code} (n : Nat) (h : roundsIn F P c Q n a w) : (Code.loop c).wpIn F 0 P Q a w := by
 intro b k cs hro hb hr
 have key : ∀ n a w, roundsIn F P c Q n a w →
   ∃ e a' w', Q e a' w' ∧ ArrivesIn (Machine.fenced P F) P (lone (b.atR a (.code c :: .inLoop c :: k)) cs w) b k cs e a' w' := by
  intro n
  induction n with
  | zero => intro a w h; exact h.elim
  | succ n ih =>
   intro a w h
   obtain ⟨e, a₁, w₁, hq, harr⟩ := h b (.inLoop c :: k) cs hro hb hr
   cases e with
   | normal =>
    obtain ⟨e₂, a₂, w₂, hq₂, harr₂⟩ := ih a₁ w₁ hq
    exact ⟨e₂, a₂, w₂, hq₂, .of_steps (StepsIn.trans harr (.one (fenced_calm hb hr rfl) stepR_inLoop)) harr₂⟩
   | exit id => exact ⟨_, a₁, w₁, hq, .pass (x := .inLoop c) rfl (fun _ _ => .inl (by simp)) harr⟩
   | goto l => exact ⟨_, a₁, w₁, hq, .pass (x := .inLoop c) rfl (fun _ _ => .inl (by simp)) harr⟩
   | ret => exact ⟨_, a₁, w₁, hq, .pass (x := .inLoop c) rfl (fun _ _ => .inl (by simp)) harr⟩
   | panic ch => exact ⟨_, a₁, w₁, hq, .pass (x := .inLoop c) rfl (fun _ _ => .inl (by simp)) harr⟩
   | outgrown => exact ⟨_, a₁, w₁, hq, .pass (x := .inLoop c) rfl (fun _ _ => .inl (by simp)) harr⟩
 obtain ⟨e, a', w', hq, harr⟩ := key n a w h
 exact ⟨e, a', w', hq, .of_steps (.one (fenced_calm hb hr rfl) stepR_loop) harr⟩
theorem zID (hA : Holds A H) {c : Code} {body : zAa → Mem → (Ex → zAa → Mem → R) → R} {Q : Exit → Act → World → Prop} {K : Ex → zAa → Mem → R}
  (hb : ∀ (Q' : Exit → Act → World → Prop) (K' : Ex → zAa → Mem → R), (∀ (e : Ex) (ρ : Ren) (T : zAa) (m : Mem) (a : Act) (w : World), At lo ρ₀ m₀ w₀ nt ρ T m a w → H (K' e T m) → Q' e.to a w) →
   ∀ (ρ : Ren) (T : zAa) (m : Mem) (a : Act) (w : World), At lo ρ₀ m₀ w₀ nt ρ T m a w → H (body T m K') → c.wpIn (Fr r) 0 P Q' a w)
  (hQ : ∀ (e : Ex) (ρ : Ren) (T : zAa) (m : Mem) (a : Act) (w : World), At lo ρ₀ m₀ w₀ nt ρ T m a w → H (K e T m) → Q e.to a w) :
  ∀ (n : Nat) (ρ : Ren) (T : zAa) (m : Mem) (a : Act) (w : World), At lo ρ₀ m₀ w₀ nt ρ T m a w → H (iter A body n T m K) → roundsIn (Fr r) P c Q n a w
 | 0, ρ, T, m, a, w, hat, h => (hA.fail h).elim
 | n + 1, ρ, T, m, a, w, hat, h => by
  simp only [iter] at h
  refine hb _ _ (fun e ρ' T' m' a' w' hat' h' => ?_) ρ T m a w hat h
  cases e with
  | normal => exact zID hA hb hQ n ρ' T' m' a' w' hat' h'
  | exit id => exact hQ (.exit id) ρ' T' m' a' w' hat' h'
  | ret => exact hQ .ret ρ' T' m' a' w' hat' h'
theorem stOf_ne_busy {st : Nat} (h : st ≠ 2) : stOf st ≠ .busy := by
 match st, h with
 | 0, _ => exact fun h => by cases h
 | 1, _ => exact fun h => by cases h
 | k + 3, _ => exact fun h => by cases h
theorem zFd {l : Nat} {L : Loop} {w : World} (h : w.heap[l]? = some (.loop L)) (o : Obj) : (setObj l o).run P w = .ok () { w with heap := w.heap.setIfInBounds l o } := by
 simp [setObj, Sem.run, h]
theorem zDZ {l : Nat} {L : Loop} {w : World} (h : w.heap[l]? = some (.loop L)) : (Instr.getLoop l).run P w = .ok L w := by
 simp [Instr.getLoop, getObj, Sem.run, h]
theorem MR.putLoop {ρ : Ren} {m : Mem} {w : World} (hm : MR ρ m w) {l : Nat} {i : Img} (hl : ρ l = some i) {st : Nat} {p : Option (Option Nat)} (ho : m.get l = some (.loop st p)) {L : zH5} (hL : i.lp = some L) {D : Nat}
  {st' : Nat} {p' : Option (Option Nat)} {o' : Obj} (ho' : o' = .loop { state := stOf st', pending := p'.map jumpOf, fn := L.fn, tmps := L.tmps, params := L.params, assign := L.assign, body := L.body, defers := D }) :
  MR ρ (m.set l (.loop st' p')) { w with heap := w.heap.setIfInBounds i.b o' } ∧ Ext ρ m w ρ (m.set l (.loop st' p')) { w with heap := w.heap.setIfInBounds i.b o' } := by
 have hlt := (hm.lt l i hl).2
 obtain ⟨hd, _⟩ := hm.obj l i _ hl ho
 refine hm.put hl ho rfl (by simp) ⟨rfl, rfl⟩ (fun k hk => ?_) ⟨hd, L, D, hL, ?_⟩
 ·simp [Array.getElem?_setIfInBounds_ne (fun e => hk e.symm)]
 ·rw [← ho']; simp [Array.getElem?_setIfInBounds, hlt]
theorem zHB {ρ : Ren} : ∀ {ps : List Tmp} {sl : List Sl} {args : List V} {args' : List Value} {T T' : zAa} {t : Array Value}, zDK nt ps = some sl → VRs ρ args args' → fillA sl args T = some T' → SR ρ nt T t →
  ps.length = args'.length ∧ SR ρ nt T' ((ps.zip args').foldl (fun tmps (t, a) => tmps.setIfInBounds t a) t)
 | [], sl, args, args', T, T', t, h1, h2, h3, h4 => by
  simp only [zDK, Option.some.injEq] at h1; subst h1
  cases h2 with
  | nil => simp only [fillA, Option.some.injEq] at h3; subst h3; exact ⟨rfl, h4⟩
  | cons a b => simp [fillA] at h3
 | q :: ps, sl, args, args', T, T', t, h1, h2, h3, h4 => by
  simp only [zDK] at h1
  obtain ⟨hq, h1⟩ := zAF h1
  split at h1
  ·rename_i sl' hsl
   simp only [Option.some.injEq] at h1; subst h1
   cases h2 with
   | nil => simp [fillA] at h3
   | cons ha hb =>
    simp only [fillA] at h3
    rename_i v v' la la'
    have h5 : SR ρ nt (T.set v (zAW q)) (t.setIfInBounds q v') := by
     have := SR.put (a := { tmps := t, defers := [] }) h4 ha (dst := some q) (d := some (zAW q)) (.inr ⟨q, zAV.1 hq, rfl, rfl⟩)
     exact this
    obtain ⟨h6, h7⟩ := zHB hsl hb h3 h5
    refine ⟨by simp [h6], ?_⟩
    simpa using h7
  ·cases h1
theorem endRound_run {l : Nat} {L : Loop} {w : World} (h : w.heap[l]? = some (.loop L)) (j : Option Code) :
  (Instr.endRound l j).run P w = .ok (.bool j.isNone) { w with heap := w.heap.setIfInBounds l (.loop { L with state := if j.isNone then .ready else .done, pending := j }) } := by
 simp only [Instr.endRound, Sem.run_bind, zDZ h, Result.andThen_ok, zFd h, Sem.run_pure]
theorem round_end {ρ : Ren} {m : Mem} {w : World} (hm : MR ρ m w) {l : Nat} {i : Img} (hl : ρ l = some i) {L : zH5} (hL : i.lp = some L) {ρ' : Ren} {m' : Mem} {w' : World} (hx : Ext ρ' m' w' ρ m w) (hle : ρ'.le ρ) (hA : Holds A H) {e : Ex} {K : V → Mem → R}
  (h : H (zHD A l e m K)) (a : Act) : roundPost P i.b (zBJ H ρ' m' w' K) e.to a w := by
 unfold zHD at h
 split at h
 ·rename_i st p ho
  obtain ⟨hd, L', D, hL', hw⟩ := hm.obj l i _ hl ho
  rw [hL] at hL'
  cases hL'
  have go : ∀ (b : Bool) (st' : Nat) (p' : Option (Option Nat)) (j : Option Code), b = j.isNone → stOf st' = (if j.isNone then .ready else .done) → p'.map jumpOf = j → H (K (.bool b) (m.set l (.loop st' p'))) →
    ∃ v w1, (Instr.endRound i.b j).run P w = .ok v w1 ∧ zBJ H ρ' m' w' K (.returned v) w1 := by
   intro b st' p' j hb hst hp hK
   obtain ⟨q1, q2⟩ := hm.putLoop hl ho hL (D := D) (st' := st') (p' := p') rfl
   refine ⟨_, _, endRound_run hw j, ρ, .bool b, _, ?_, ?_, ?_, hK⟩
   ·rw [hb]; exact .bool _
   ·rw [← hst, ← hp]; exact q1
   ·rw [← hst, ← hp]; exact hx.trans q2
  cases e with
  | normal => exact go true 0 none none rfl rfl rfl h
  | exit id => exact go false 1 (some (some id)) (some (.exit id)) rfl rfl rfl h
  | ret => exact go false 1 (some none) (some .ret) rfl rfl rfl h
 ·exact (hA.fail h).elim
def resRun (ts : Array Value) : ResultVar → Sem Value
 | .tmp t => pure (ts.getD t Go.undef)
 | .cell x t => do loadVar t (← asAddr (ts.getD x Go.undef))
theorem zJf {r : ResultVar} {ar : ARes} (h : zJg P nt r = some ar) {ρ : Ren} {T : zAa} {m : Mem} {a : Act} {w : World} (hs : SR ρ nt T a.tmps) (hm : MR ρ m w) {v : V} (hv : resV T m ar = some v) :
  ∃ v', (resRun a.tmps r).run P w = .ok v' w ∧ VR ρ v v' := by
 cases r with
 | tmp t =>
  simp only [zJg] at h
  obtain ⟨h1, h2⟩ := zAF h
  simp only [Option.some.injEq] at h2; subst h2
  simp only [resV, Option.some.injEq] at hv; subst hv
  exact ⟨_, rfl, hs.get t (zAV.1 h1)⟩
 | cell x t =>
  have ld : ∀ {p v'}, a.tmps.getD x Go.undef = p → (Instr.loadAt t p).run P w = .ok v' w → (∃ q, p = .pointer (some q)) → ((do loadVar t (← asAddr (a.tmps.getD x Go.undef)) : Sem Value)).run P w = .ok v' w := by
   rintro p v' rfl h1 ⟨q, h2⟩
   rw [h2] at h1 ⊢
   simpa [Instr.loadAt, Instr.sureAddr, asAddr] using h1
  simp only [zJg] at h
  split at h
  ·rename_i ha
   split at h
   ·rename_i n hn
    obtain ⟨h1, h2⟩ := zAF h
    simp only [Option.some.injEq] at h2; subst h2
    have hx := hs.get x (zAV.1 h1)
    simp only [resV] at hv
    obtain ⟨v', h3, h4⟩ := sLoadN (P := P) hm ha hn (T := T) (x := .t (zAW x)) hx hv
    refine ⟨v', ld rfl h3 ?_, h4⟩
    unfold zDC at hv
    split at hv
    ·rename_i b off he
     simp only [ev] at he
     rw [he] at hx
     generalize a.tmps.getD x Go.undef = p at hx
     cases hx with | ptr hb => exact ⟨_, rfl⟩
    ·cases hv
   ·cases h
  ·rename_i ha
   obtain ⟨h1, h2⟩ := zAF h
   simp only [Option.some.injEq] at h2; subst h2
   have hx := hs.get x (zAV.1 h1)
   simp only [resV] at hv
   obtain ⟨v', h3, h4⟩ := sLoad1 (P := P) hm ha (T := T) (x := .t (zAW x)) hx hv
   refine ⟨v', ld rfl h3 ?_, h4⟩
   unfold zB0 at hv
   split at hv
   ·rename_i b off he
    simp only [ev] at he
    rw [he] at hx
    generalize a.tmps.getD x Go.undef = p at hx
    cases hx with | ptr hb => exact ⟨_, rfl⟩
   ·cases hv
  ·cases h
theorem zE8 : ∀ {rs : List ResultVar} {ars : List ARes}, zEN P nt rs = some ars → ∀ {ρ : Ren} {T : zAa} {m : Mem} {a : Act} {w : World}, SR ρ nt T a.tmps → MR ρ m w → ∀ {vs : List V}, resVs T m ars = some vs →
  ∃ vs', (rs.mapM (resRun a.tmps)).run P w = .ok vs' w ∧ VRs ρ vs vs'
 | [], ars, h, ρ, T, m, a, w, hs, hm, vs, hv => by
  simp only [zEN, Option.some.injEq] at h; subst h
  simp only [resVs, Option.some.injEq] at hv; subst hv
  exact ⟨[], by simp, .nil⟩
 | r :: rs, ars, h, ρ, T, m, a, w, hs, hm, vs, hv => by
  simp only [zEN] at h
  split at h
  ·rename_i ar ars' h1 h2
   simp only [Option.some.injEq] at h; subst h
   simp only [resVs] at hv
   split at hv
   ·rename_i v hv1
    split at hv
    ·rename_i vs0 hv2
     simp only [Option.some.injEq] at hv; subst hv
     obtain ⟨v', h3, h4⟩ := zJf h1 hs hm hv1
     obtain ⟨vs', h5, h6⟩ := zE8 h2 hs hm hv2
     refine ⟨v' :: vs', ?_, .cons h4 h6⟩
     rw [List.mapM_cons, Sem.run_bind, h3, Result.andThen_ok, Sem.run_bind, h5, Result.andThen_ok]
     rfl
    ·cases hv
   ·cases hv
  ·cases h
theorem zGs {fn : Func} {af : zAr} (hr : zEN P nt fn.results.toList = some af.res) {ρ : Ren} {T : zAa} {m : Mem} {a : Act} {w : World} (hs : SR ρ nt T a.tmps) (hm : MR ρ m w) {v : V} (hv : zGt af T m = some v) :
  ∃ v', (results fn a.tmps).run P w = .ok v' w ∧ VR ρ v v' := by
 unfold zGt at hv
 have key : ∀ {vs : List V}, resVs T m af.res = some vs → ∃ vs', (results fn a.tmps).run P w = .ok (if h : vs'.toArray.size = 1 then vs'.toArray[0] else .tuple vs'.toArray) w ∧ VRs ρ vs vs' := by
  intro vs hvs
  obtain ⟨vs', h1, h2⟩ := zE8 hr hs hm hvs
  refine ⟨vs', ?_, h2⟩
  unfold results
  rw [Array.mapM_eq_mapM_toList]
  simp only [Sem.run_bind, Sem.run_map, Sem.run_pure]
  change ((Sem.run P (List.mapM (resRun a.tmps) fn.results.toList) w).andThen _).andThen _ = _
  rw [h1]
  rfl
 split at hv
 ·rename_i v0 h0
  simp only [Option.some.injEq] at hv; subst hv
  obtain ⟨vs', h1, h2⟩ := key h0
  cases h2 with | cons hv0 hn =>
  cases hn
  exact ⟨_, h1, hv0⟩
 ·rename_i vs hne h0
  simp only [Option.some.injEq] at hv; subst hv
  obtain ⟨vs', h1, h2⟩ := key h0
  refine ⟨_, h1, ?_⟩
  have hl := h2.length
  rw [dif_neg]
  ·exact .tuple h2
  ·intro hone
   simp only [List.size_toArray] at hone
   rw [hone] at hl
   match vs, hl with
   | [v], _ => exact hne v rfl
 ·cases hv
theorem fillS_get : ∀ (l : List V) (n : Nat) (T : zAa), n + l.length ≤ 512 → ∀ p, p < 512 → (zHA n l T).get (zAW p) = if n ≤ p ∧ p < n + l.length then l.getD (p - n) .undef else T.get (zAW p)
 | [], n, T, h, p, hp => by simp [zHA]; intro _ _; omega
 | v :: l, n, T, h, p, hp => by
  simp only [List.length_cons] at h
  rw [zHA, fillS_get l (n + 1) _ (by omega) p hp, zAa.get_set]
  simp only [List.length_cons]
  by_cases e : p = n
  ·subst e
   rw [if_neg (by omega), if_pos rfl, if_pos (by omega)]
   simp
  ·rw [if_neg fun h' => e (zF7 hp (by omega) h')]
   by_cases h1 : n + 1 ≤ p ∧ p < n + 1 + l.length
   ·rw [if_pos h1, if_pos (by omega)]
    rw [show p - n = (p - (n + 1)) + 1 by omega]
    simp
   ·rw [if_neg h1, if_neg (by omega)]
theorem slots0_get (s : Sl) : zFv.get s = .undef := by
 obtain ⟨a, b, c⟩ := s
 cases a <;> cases b <;> cases c <;> rfl
theorem sr_enter {ρ : Ren} {args : List V} {args' : List Value} (h : VRs ρ args args') (h1 : args.length ≤ nt) (h2 : nt ≤ 512) : SR ρ nt (zHA 0 args zFv) ((⟨args'⟩ : Array Value) ++ Array.replicate (nt - args'.length) Go.undef) := by
 have hl := h.length
 refine ⟨by simp; omega, h2, fun n hn => ?_⟩
 rw [fillS_get args 0 zFv (by omega) n (by omega), slots0_get]
 simp only [Nat.zero_le, true_and, Nat.zero_add, Nat.sub_zero]
 by_cases e : n < args.length
 ·rw [if_pos e]
  obtain ⟨v', h3, h4⟩ := h.get n _ (List.getElem?_eq_getElem e)
  rw [List.getD_eq_getElem?_getD, List.getElem?_eq_getElem e, Array.getD_eq_getD_getElem?]
  simp only [Option.getD_some]
  have : ((⟨args'⟩ : Array Value) ++ Array.replicate (nt - args'.length) Go.undef)[n]? = some v' := by
   rw [Array.getElem?_append_left (by simp; omega)]
   simpa using h3
  rw [this]
  exact h4
 ·rw [if_neg e, Array.getD_eq_getD_getElem?, Array.getElem?_append_right (by simp; omega)]
  have : ((Array.replicate (nt - args'.length) Go.undef)[n - (⟨args'⟩ : Array Value).size]?).getD Go.undef = Go.undef := by
   rw [Array.getElem?_replicate]
   split <;> rfl
  rw [this]
  exact VR.undef ρ
theorem At.step {ρ : Ren} {T : zAa} {m : Mem} {a : Act} {w : World} (h : At lo ρ₀ m₀ w₀ nt ρ T m a w) {ρ' : Ren} {m' : Mem} {w' : World} (hm : MR ρ' m' w') (hx : Ext ρ m w ρ' m' w') : At lo ρ₀ m₀ w₀ nt ρ' T m' a w' :=
 ⟨h.sr.mono hx.ren, hm, h.ext.trans hx, h.df.ext h.mr hx⟩
theorem round_sound (hA : Holds A H) {ps : Array Tmp} {sl : List Sl} (hsl : zDK nt ps.toList = some sl) {as bd : Code} {ra rb : zAa → Mem → (Ex → zAa → Mem → R) → R} {ρ₁ : Ren}
  (iha : ∀ (l : Nat) (ρ₀ : Ren) (m₀ : Mem) (w₀ : World), ρ₁.le ρ₀ → ∀ (Q : Exit → Act → World → Prop) (K : Ex → zAa → Mem → R), (∀ (e : Ex) (ρ : Ren) (T : zAa) (m : Mem) (a : Act) (w : World), At 0 ρ₀ m₀ w₀ nt ρ T m a w → H (K e T m) → Q e.to a w) →
   ∀ (ρ : Ren) (T : zAa) (m : Mem) (a : Act) (w : World), At 0 ρ₀ m₀ w₀ nt ρ T m a w → H (ra T m K) → as.wpIn (Fr (some l)) 0 P Q a w)
  (ihb : ∀ (l : Nat) (ρ₀ : Ren) (m₀ : Mem) (w₀ : World), ρ₁.le ρ₀ → ∀ (Q : Exit → Act → World → Prop) (K : Ex → zAa → Mem → R), (∀ (e : Ex) (ρ : Ren) (T : zAa) (m : Mem) (a : Act) (w : World), At 0 ρ₀ m₀ w₀ nt ρ T m a w → H (K e T m) → Q e.to a w) →
   ∀ (ρ : Ren) (T : zAa) (m : Mem) (a : Act) (w : World), At 0 ρ₀ m₀ w₀ nt ρ T m a w → H (rb T m K) → bd.wpIn (Fr (some l)) 0 P Q a w)
  {l : Nat} {T : zAa} {ts : Array Value} {fn : FuncId} {i : Img} (hi : i.lp = some { fn := fn, tmps := ts, params := ps, assign := as, body := bd }) (hsr : SR ρ₁ nt T ts) {ρ : Ren} (hle : ρ₁.le ρ) (hl : ρ l = some i)
  {m : Mem} {w : World} {args : List V} {args' : List Value} {K : V → Mem → R} (hm : MR ρ m w) (ha : VRs ρ args args') (h : H (roundA A l sl ra rb T args m K)) :
  Does P (.func (.yield i.b) ⟨[]⟩ ⟨[]⟩) args' w (zBJ H ρ m w K) := by
 unfold roundA at h
 split at h
 ·rename_i st p T1 ho hT1
  obtain ⟨hd, L, D, hL, hw⟩ := hm.obj l i _ hl ho
  rw [hi] at hL
  cases hL
  obtain ⟨hlen, hsr1⟩ := zHB hsl ha hT1 (hsr.mono hle)
  right
  have hzip : (ps.zip (⟨args'⟩ : Array Value)).foldl (fun tmps (t, a) => tmps.setIfInBounds t a) ts = (ps.toList.zip args').foldl (fun tmps (t, a) => tmps.setIfInBounds t a) ts := by
   rw [← Array.foldl_toList]
   simp
  refine ⟨i.b, fn, (ps.toList.zip args').foldl (fun tmps (t, a) => tmps.setIfInBounds t a) ts, as, bd, rfl, ?_, ?_⟩
  ·unfold zDb
   have hsz : (⟨args'⟩ : Array Value).size = ps.size := by
    show args'.length = ps.size
    rw [← hlen]; simp
   simp only [Deferred.ofValue, invoke, Sem.run_bind, Sem.run_pure, Result.andThen_ok, Instr.yield, zDZ hw]
   have e0 : (⟨[]⟩ : Array Value) ++ (⟨args'⟩ : Array Value) = ⟨args'⟩ := by simp
   rw [e0]
   simp only [hsz, ne_eq, not_true_eq_false, if_false, Sem.run_pure, hzip]
  ·refine roundIn_of_wpIn trivial ?_
   have hat : At 0 ρ m w nt ρ T1 m { tmps := (ps.toList.zip args').foldl (fun tmps (t, a) => tmps.setIfInBounds t a) ts, defers := [] } w := ⟨hsr1, hm, Ext.refl ρ m w, DOk.nil 0 w⟩
   refine iha i.b ρ m w hle _ _ (fun e ρ2 T2 m2 a2 w2 hat2 h2 => ?_) ρ T1 m _ w hat h
   cases e with
   | normal =>
    simp only at h2
    split at h2
    ·rename_i p2 ho2
     have hl2 := hat2.ext.ren l i hl
     obtain ⟨hd2, L2, D2, hL2, hw2⟩ := hat2.mr.obj l i _ hl2 ho2
     rw [hi] at hL2
     cases hL2
     obtain ⟨q1, q2⟩ := hat2.mr.putLoop hl2 ho2 hi (D := D2) (st' := 2) (p' := p2) rfl
     refine ⟨_, ?_, ihb i.b ρ m w hle _ _ (fun e3 ρ3 T3 m3 a3 w3 hat3 h3 => ?_) ρ2 T2 _ a2 _ (hat2.step q1 q2) h2⟩
     ·simp only [Instr.beginRound, Sem.run_bind, zDZ hw2, Result.andThen_ok, zFd hw2, stOf, Sem.run_pure]
     ·exact round_end hat3.mr (hat3.ext.ren l i hl) hi hat3.ext hat3.ext.ren hA h3 a3
    ·exact (hA.fail h2).elim
   | exit id => exact (hA.fail h2).elim
   | ret => exact (hA.fail h2).elim
 ·exact (hA.fail h).elim
theorem yok_put {Y : Ys R} {ρ : Ren} (hY : YOk P Y H ρ₀) (hle : ρ₀.le ρ) {l : Nat} {h : List V → Mem → (V → Mem → R) → R}
  (hh : ∀ ρ', ρ.le ρ' → ∃ i, ρ' l = some i ∧ ∀ (m : Mem) (w : World) (args : List V) (args' : List Value) (K : V → Mem → R), MR ρ' m w → VRs ρ' args args' → H (h args m K) →
   Does P (.func (.yield i.b) ⟨[]⟩ ⟨[]⟩) args' w (zBJ H ρ' m w K)) : YOk P (Y.put l h) H ρ := by
 intro k g hk ρ' hle'
 unfold Ys.put at hk
 by_cases e : k = l
 ·subst e
  rw [zCG rfl, cond_true, Option.some.injEq] at hk
  subst hk
  exact hh ρ' hle'
 ·rw [zAS e, cond_false] at hk
  exact hY k g hk ρ' (Ren.le_trans hle hle')
theorem zIJ (hA : Holds A H) (hcf : CFOk P cfy H) (hmix : P.follows .mixedOrders = true) : ∀ (c : Code) (ac : zAz), zBG P nt c = some ac → ∀ (Y : Ys R) (lo : Nat) (r : Option Nat) (ρ₀ : Ren) (m₀ : Mem) (w₀ : World), lo ≤ w₀.heap.size → YOk P Y H ρ₀ → (r = none ∨ zAY c = true) → ∀ (Q : Exit → Act → World → Prop) (K : Ex → zAa → Mem → R),
  (∀ (e : Ex) (ρ : Ren) (T : zAa) (m : Mem) (a : Act) (w : World), At lo ρ₀ m₀ w₀ nt ρ T m a w → H (K e T m) → Q e.to a w) →
  ∀ (ρ : Ren) (T : zAa) (m : Mem) (a : Act) (w : World), At lo ρ₀ m₀ w₀ nt ρ T m a w → H (code A cfy Y ac T m K) → c.wpIn (Fr r) 0 P Q a w := by
 intro c
 induction c with
 | skip =>
  intro ac h Y lo r ρ₀ m₀ w₀ hlo hY hr Q K hQ ρ T m a w hat hH
  simp only [zBG, Option.some.injEq] at h; subst h
  exact wpIn_skip (hQ .normal ρ T m a w hat hH)
 | region id ops d =>
  intro ac h Y lo r ρ₀ m₀ w₀ hlo hY hr Q K hQ ρ T m a w hat hH
  simp only [zBG] at h
  exact zGM hA (hcf Y ρ₀ hY) hmix h rfl (fun ρ T m a w => hQ .normal ρ T m a w) hat hH
 | seq x y ihx ihy =>
  intro ac h Y lo r ρ₀ m₀ w₀ hlo hY hr Q K hQ ρ T m a w hat hH
  simp only [zBG] at h
  split at h
  ·rename_i ax ay hx hy
   simp only [Option.some.injEq] at h; subst h
   simp only [code] at hH
   have hr1 : (r = none ∨ zAY x = true) ∧ (r = none ∨ zAY y = true) := by
    rcases hr with h | h
    ·exact ⟨.inl h, .inl h⟩
    ·simp only [zAY, Bool.and_eq_true] at h; exact ⟨.inr h.1, .inr h.2⟩
   refine wpIn_seq (ihx ax hx Y lo r ρ₀ m₀ w₀ hlo hY hr1.1 _ _ (fun e ρ' T' m' a' w' hat' h' => ?_) ρ T m a w hat hH)
   cases e with
   | normal => exact ihy ay hy Y lo r ρ₀ m₀ w₀ hlo hY hr1.2 Q K hQ ρ' T' m' a' w' hat' h'
   | exit id => exact hQ (.exit id) ρ' T' m' a' w' hat' h'
   | ret => exact hQ .ret ρ' T' m' a' w' hat' h'
  ·cases h
 | cond c x y ihx ihy =>
  intro ac h Y lo r ρ₀ m₀ w₀ hlo hY hr Q K hQ ρ T m a w hat hH
  simp only [zBG] at h
  split at h
  ·rename_i c' ax ay hc hx hy
   simp only [Option.some.injEq] at h; subst h
   simp only [code] at hH
   have hr1 : (r = none ∨ zAY x = true) ∧ (r = none ∨ zAY y = true) := by
    rcases hr with h | h
    ·exact ⟨.inl h, .inl h⟩
    ·simp only [zAY, Bool.and_eq_true] at h; exact ⟨.inr h.1, .inr h.2⟩
   have hv := zAk hat.sr hc
   split at hH
   ·rename_i he
    rw [he] at hv
    generalize hg : a.eval c = v' at hv
    cases hv
    exact wpIn_cond_true hg (ihx ax hx Y lo r ρ₀ m₀ w₀ hlo hY hr1.1 Q K hQ ρ T m a w hat hH)
   ·rename_i he
    rw [he] at hv
    generalize hg : a.eval c = v' at hv
    cases hv
    exact wpIn_cond_false hg (ihy ay hy Y lo r ρ₀ m₀ w₀ hlo hY hr1.2 Q K hQ ρ T m a w hat hH)
   ·exact (hA.fail hH).elim
  ·cases h
 | block id c ih =>
  intro ac h Y lo r ρ₀ m₀ w₀ hlo hY hr Q K hQ ρ T m a w hat hH
  simp only [zBG] at h
  split at h
  ·rename_i ac' hc
   simp only [Option.some.injEq] at h; subst h
   simp only [code] at hH
   refine wpIn_block (ih ac' hc Y lo r ρ₀ m₀ w₀ hlo hY hr _ _ (fun e ρ' T' m' a' w' hat' h' => ?_) ρ T m a w hat hH)
   cases e with
   | normal => exact hQ .normal ρ' T' m' a' w' hat' h'
   | exit j =>
    simp only [Ex.to, Exit.inBlock]
    simp only at h'
    by_cases e : j = id
    ·rw [if_pos e]
     rw [zCG e, cond_true] at h'
     exact hQ .normal ρ' T' m' a' w' hat' h'
    ·rw [if_neg e]
     rw [zAS e, cond_false] at h'
     exact hQ (.exit j) ρ' T' m' a' w' hat' h'
   | ret => exact hQ .ret ρ' T' m' a' w' hat' h'
  ·cases h
 | loop c ih =>
  intro ac h Y lo r ρ₀ m₀ w₀ hlo hY hr Q K hQ ρ T m a w hat hH
  simp only [zBG] at h
  split at h
  ·rename_i ac' hc
   simp only [Option.some.injEq] at h; subst h
   simp only [code] at hH
   exact wpIn_loop_rounds rounds (zID hA (fun Q' K' hQ' ρ T m a w hat h => ih ac' hc Y lo r ρ₀ m₀ w₀ hlo hY hr Q' K' hQ' ρ T m a w hat h) hQ rounds ρ T m a w hat hH)
  ·cases h
 | exit id =>
  intro ac h Y lo r ρ₀ m₀ w₀ hlo hY hr Q K hQ ρ T m a w hat hH
  simp only [zBG, Option.some.injEq] at h; subst h
  exact wpIn_exit (hQ (.exit id) ρ T m a w hat hH)
 | ret =>
  intro ac h Y lo r ρ₀ m₀ w₀ hlo hY hr Q K hQ ρ T m a w hat hH
  simp only [zBG, Option.some.injEq] at h; subst h
  exact wpIn_ret (hQ .ret ρ T m a w hat hH)
 | rangeFunc f ps x y ihx ihy =>
  intro ac h Y lo r ρ₀ m₀ w₀ hlo hY hr Q K hQ ρ T m a w hat hH
  have hr0 : r = none := by
   rcases hr with h | h
   ·exact h
   ·simp [zAY] at h
  subst hr0
  simp only [zBG] at h
  obtain ⟨hn, h⟩ := zAF h
  simp only [Bool.and_eq_true] at hn
  split at h
  ·rename_i f' sl ax ay hf hsl hx hy
   simp only [Option.some.injEq] at h; subst h
   simp only [code] at hH
   have hfv := zAk hat.sr hf
   split at hH
   ·rename_i g cap he
    rw [he] at hfv
    generalize hg : a.eval f = fv at hfv
    cases hfv with | func k1 k2 =>
    cases k1
    rename_i cap'
    refine wpIn_rangeFunc fun fn _ => ?_
    let wA : World := { w with heap := w.heap.push (.deferred (some [])) }
    let lo' : Obj := .loop { state := .ready, pending := none, fn := fn, tmps := a.tmps, params := ps, assign := x, body := y, defers := w.heap.size }
    let wB : World := { wA with heap := wA.heap.push lo' }
    let L : zH5 := { fn := fn, tmps := a.tmps, params := ps, assign := x, body := y }
    let i : Img := ⟨wA.heap.size, 0, 0, some L⟩
    have hpA : Push w wA (.deferred (some [])) := ⟨rfl, rfl, rfl⟩
    have hpB : Push wA wB lo' := ⟨rfl, rfl, rfl⟩
    have hsA := zCd.push hpA
    have hmA := hat.mr.stays hsA
    have hxA : Ext ρ m w ρ m wA := Ext.of_stays hsA
    have hfree : ρ m.next = none := by
     cases e : ρ m.next with
     | none => rfl
     | some j => have := (hat.mr.lt _ _ e).1; omega
    obtain ⟨hmB, hxB⟩ := hmA.alloc (o := .loop 0 none) hpB (n := 0) (lp := some L) ⟨rfl, L, w.heap.size, rfl, by simp [wB, lo', L, stOf]⟩
    have hle1 : ρ.le (ρ.put m.next i) := Ren.le_put hfree
    have hli : (ρ.put m.next i) m.next = some i := Ren.put_self _ _ _
    have hY0 : YOk P Y H ρ := hY.mono hat.ext.ren
    have hY1 : YOk P (Y.put m.next (roundA A m.next sl (code A cfy Y ax) (code A cfy Y ay) T)) H (ρ.put m.next i) := by
     refine yok_put hY0 hle1 fun ρ' hle' => ⟨i, hle' _ _ hli, fun m1 w1 args args' K1 hm1 ha1 h1 => ?_⟩
     refine round_sound hA hsl (fun l ρ2 m2 w2 hl2 Q2 K2 hQ2 => ihx ax hx Y 0 (some l) ρ2 m2 w2 (Nat.zero_le _) (hY0.mono (Ren.le_trans hle1 hl2)) (.inr hn.1) Q2 K2 hQ2)
      (fun l ρ2 m2 w2 hl2 Q2 K2 hQ2 => ihy ay hy Y 0 (some l) ρ2 m2 w2 (Nat.zero_le _) (hY0.mono (Ren.le_trans hle1 hl2)) (.inr hn.2) Q2 K2 hQ2)
      (ρ₁ := ρ.put m.next i) (T := T) (i := i) rfl (hat.sr.mono hle1) hle' (hle' _ _ hli) hm1 ha1 h1
    have hdoes := hcf _ _ hY1 (ρ.put m.next i) _ wB _ _ [.yield m.next] [.func (.yield i.b) ⟨[]⟩ ⟨[]⟩] _ (Ren.le_refl _) hmB (.func (a' := []) .nil (k2.mono hle1)) (.cons (.yield hli) .nil) hH
    rcases hdoes with ⟨g', xs, hrun, hcall⟩ | ⟨_, _, _, _, _, hbad, _⟩
    ·refine ⟨wA.heap.size, [{ target := .collected w.heap.size, args := #[] }], wB, { target := .fn (.func g) ⟨cap'⟩, args := #[.func (.yield wA.heap.size) #[] #[]] }, wB, g', xs, wB, rfl, ?_, fun _ _ => trivial, ?_, fun h => (by cases h), ?_⟩
     ·simp only [resolve, rangeCall, hg, Deferred.ofValue]
      simp [Act.eval]
     ·have : (zDb (.func (.func g) ⟨[]⟩ ⟨cap'⟩) [.func (.yield i.b) ⟨[]⟩ ⟨[]⟩]).run P wB = (invoke (.fn (.func g) ⟨cap'⟩) #[.func (.yield wA.heap.size) #[] #[]]).run P wB := by
       unfold zDb
       simp only [Deferred.ofValue, Sem.run_bind, Sem.run_pure, Result.andThen_ok]
       rfl
      rw [← this]
      exact hrun
     ·have hc2 : CallsIn (Fr none) 0 P g' xs wB _ := (callsIn_wide (n := 0)).2 hcall
      refine hc2.mono fun e w3 he => ?_
      cases e with
      | panicked ch => exact he.elim
      | outgrown => exact he.elim
      | returned v' =>
       obtain ⟨ρ3, v, m3, _, hm3, hx3, h3⟩ := he
       unfold endLoopA at h3
       dsimp only at h3
       split at h3
       ·rename_i st p ho
        by_cases hst : st = 2
        ·rw [zCG hst, cond_true] at h3; exact (hA.fail h3).elim
        ·rw [zAS hst, cond_false] at h3
         have hl3 := hx3.ren _ _ hli
         obtain ⟨_, L3, D3, hL3, hw3⟩ := hm3.obj _ i _ hl3 ho
         cases hL3
         obtain ⟨q1, q2⟩ := hm3.putLoop hl3 ho (L := L) rfl (D := D3) (st' := 3) (p' := p) rfl
         have hend : (Instr.endLoop i.b).run P w3 = .ok (p.map jumpOf) { w3 with heap := w3.heap.setIfInBounds i.b (.loop { state := stOf 3, pending := p.map jumpOf, fn := L.fn, tmps := L.tmps, params := L.params, assign := L.assign, body := L.body, defers := D3 }) } := by
          have hne : (stOf st == LoopState.busy) = false := by
           have := stOf_ne_busy hst
           cases e : stOf st <;> first | rfl | exact (this e).elim
          simp only [Instr.endLoop, Sem.run_bind, zDZ hw3, Result.andThen_ok, hne, Bool.false_eq_true, if_false, Sem.run_pure, zFd hw3]
          rfl
         have hxall : Ext ρ m wA ρ3 _ _ := hxB.trans (hx3.trans q2)
         have hdf : DOk lo wA ({ target := .collected w.heap.size, args := #[] } :: a.defers) := by
          obtain ⟨rs, r1, r2, r3⟩ := hat.df.push hpA
          refine ⟨w.heap.size :: rs, by rw [r1]; rfl, List.nodup_cons.2 ⟨fun hmem => ?_, r2⟩, fun r hr => ?_⟩
          ·obtain ⟨rs0, s1, s2, s3⟩ := hat.df
           have : rs0 = rs := by
            rw [s1] at r1
            have hinj : Function.Injective (fun r : Nat => ({ target := .collected r, args := #[] } : Deferred)) := fun a b h => by injection h with h1 _; injection h1
            exact List.map_inj_right (fun a b h => hinj h) |>.1 r1
           subst this
           have := lt_of_heap (s3 _ hmem).2
           omega
          ·rcases List.mem_cons.1 hr with rfl | hr
           ·refine ⟨Nat.le_trans hlo hat.ext.size, by simp [wA]⟩
           ·exact r3 r hr
         have hat4 : At lo ρ₀ m₀ w₀ nt ρ3 T _ { a with defers := [{ target := .collected w.heap.size, args := #[] }] ++ a.defers } _ :=
          ⟨hat.sr.mono (Ren.le_trans hle1 (Ren.le_trans hx3.ren q2.ren)), q1, hat.ext.trans (hxA.trans hxall), hdf.ext hmA hxall⟩
         refine ⟨_, _, hend, ?_⟩
         cases p with
         | none => exact hQ .normal ρ3 T _ _ _ hat4 h3
         | some p =>
          cases p with
          | none => exact wpIn_ret (hQ .ret ρ3 T _ _ _ hat4 h3)
          | some id => exact wpIn_exit (hQ (.exit id) ρ3 T _ _ _ hat4 h3)
       ·exact (hA.fail h3).elim
    ·cases hbad
   ·exact (hA.fail hH).elim
  ·cases h
 | scope c ih => intro ac h; simp [zBG] at h
 | label l => intro ac h; simp [zBG] at h
 | goto l => intro ac h; simp [zBG] at h
 | refuse w =>
  intro ac h Y lo r ρ₀ m₀ w₀ hlo hY hr Q K hQ ρ T m a w hat hH
  simp only [zBG, Option.some.injEq] at h; subst h
  simp only [code, opers, zAT, cond_true, zCE, lFail] at hH
  exact (hA.fail hH).elim
theorem zEj {fn : Func} {ts : Array Value} {Rr : Ending → World → Prop} {ρ : Ren} {m : Mem} : ∀ (rs : List Nat) (w : World), MR ρ m w → rs.Nodup → (∀ r ∈ rs, lo ≤ r ∧ w.heap[r]? = some (.deferred (some []))) →
  (∀ w', MR ρ m w' → w'.heap.size = w.heap.size → zH8 w w' → (∀ k, k < lo → w'.heap[k]? = w.heap[k]?) → ∃ v', (results fn ts).run P w' = .ok v' w' ∧ Rr (.returned v') w') →
  LeavesInM (Fr none) 0 P fn ts Rr (rs.map fun r => { target := .collected r, args := #[] }) .returning w
 | [], w, hm, _, _, fin => fin w hm rfl (zH8.refl w) fun _ _ => rfl
 | r :: rs, w, hm, hnd, hr, fin => by
  obtain ⟨hr1, hr2⟩ := hr r List.mem_cons_self
  obtain ⟨hn1, hn2⟩ := List.nodup_cons.1 hnd
  have hlt := lt_of_heap hr2
  let w1 : World := { w with heap := w.heap.setIfInBounds r (.deferred none) }
  have hsame : ∀ k, k ≠ r → w1.heap[k]? = w.heap[k]? := fun k hk => by simp [w1, Array.getElem?_setIfInBounds_ne (fun e => hk e.symm)]
  have hm1 : MR ρ m w1 := by
   refine ⟨fun b i hb => ?_, fun b i o hb ho => ?_, hm.inj⟩
   ·have := hm.lt b i hb
    simpa [w1] using this
   ·cases hl : o.live with
    | false => cases o <;> simp_all [zAe.live, OR]
    | true =>
     refine (hm.obj b i o hb ho).mono ρ.le_refl (hsame _ fun e => ?_)
     exact hm.notDeferred hb ho hl (e ▸ hr2)
  refine ⟨by simp, .inl ⟨r, w1, rfl, ?_, ?_⟩⟩
  ·simp [Instr.takeDeferred, getObj, setObj, Sem.run, hr2, w1]
  ·refine zEj rs w1 hm1 hn2 (fun q hq => ⟨(hr q (List.mem_cons_of_mem _ hq)).1, ?_⟩) fun w' h1 h2 h3 h4 => ?_
   ·rw [hsame q fun e => hn1 (e ▸ hq)]
    exact (hr q (List.mem_cons_of_mem _ hq)).2
   ·refine fin w' h1 (by rw [h2]; simp [w1]) ⟨h3.1, h3.2⟩ fun k hk => ?_
    rw [h4 k hk, hsame k (by omega)]
theorem zEJ (hA : Holds A H) (hcf : CFOk P cfy H) (hmix : P.follows .mixedOrders = true) {f : FuncId} {fn : Func} (hf : P.funcs[f]? = some fn) {af : zAr} (hc : zCU P fn = some af) {Y : Ys R} {ρ : Ren} (hY : YOk P Y H ρ) {m : Mem} {w : World} (hm : MR ρ m w)
  {args : List V} {args' : List Value} (ha : VRs ρ args args') {K : V → Mem → R} (hH : H (zAD A cfy Y af args m K)) : Calls P f ⟨args'⟩ w (zBJ H ρ m w K) := by
 unfold zCU at hc
 split at hc
 ·rename_i c hb
  split at hc
  ·rename_i ac ars h1 h2
   obtain ⟨h3, h4⟩ := zAF hc
   simp only [Option.some.injEq] at h4
   subst h4
   unfold zAD at hH
   by_cases hl : args.length ≤ fn.ntmps
   ·simp only [zAA.2 hl, cond_true] at hH
    refine (callsIn_wide (n := 0)).1 (callsIn_of_wp_marks (F := Fr none) hf hb trivial ?_)
    refine zIJ hA hcf hmix c ac h1 Y w.heap.size none ρ m w (Nat.le_refl _) hY (.inl rfl) _ _ (fun e ρ' T m' a w' hat h' => ?_) ρ _ m _ w ⟨sr_enter ha hl (zAA.1 h3), hm, Ext.refl ρ m w, DOk.nil _ w⟩ hH
    have fin : (H (match zGt ⟨fn.ntmps, ars, ac⟩ T m' with | some v => K v m' | none => A.fail)) → LeavesInM (Fr none) 0 P fn a.tmps (zBJ H ρ m w K) a.defers .returning w' := by
     intro h''
     obtain ⟨rs, r1, r2, r3⟩ := hat.df
     rw [r1]
     refine zEj rs w' hat.mr r2 r3 fun w2 g1 g2 g3 g4 => ?_
     split at h''
     ·rename_i v hv
      obtain ⟨v', h5, h6⟩ := zGs (af := ⟨fn.ntmps, ars, ac⟩) h2 hat.sr g1 hv
      refine ⟨v', h5, ρ', v, m', h6, g1, ?_, h''⟩
      exact ⟨hat.ext.ren, by rw [g2]; exact hat.ext.size, hat.ext.next, hat.ext.fresh, fun k hk hro => by rw [g4 k hk]; exact hat.ext.keep k hk hro, hat.ext.old, hat.ext.mute.trans g3⟩
     ·exact (hA.fail h'').elim
    cases e with
    | normal => exact fin h'
    | exit id => exact (hA.fail h').elim
    | ret => exact fin h'
   ·have : Nat.ble args.length fn.ntmps = false := by
     cases e : Nat.ble args.length fn.ntmps with
     | false => rfl
     | true => exact (hl (zAA.1 e)).elim
    simp only [this, cond_false] at hH
    exact (hA.fail hH).elim
  ·cases hc
 ·cases hc
def zDx (P : Program) (tab : Nat → Option zAr) : Prop :=
 ∀ f af, tab f = some af → ∃ fn, P.funcs[f]? = some fn ∧ zCU P fn = some af ∧ (fn.name == "runtime.NumGoroutine") = false
theorem callFunc_run {f : FuncId} {fn : Func} (hf : P.funcs[f]? = some fn) (hb : fn.body.isNone = false) (hn : (fn.name == "runtime.NumGoroutine") = false) (args : Array Value) (w : World) : (callFunc f args).run P w = .ok (.enter f args) w := by
 unfold callFunc
 have hp : Sem.run P program w = .ok P w := rfl
 simp only [Sem.run_bind, hp, Result.andThen_ok, hf, hn, hb, Bool.false_eq_true, if_false, Sem.run_pure]
theorem zEo {fn : Func} {af : zAr} (hc : zCU P fn = some af) : fn.body.isNone = false := by
 unfold zCU at hc
 split at hc
 ·rename_i c hb; rw [hb]; rfl
 ·cases hc
def zCm (P : Program) (n : Nat) : Prop := ∀ (args : Array Value) (w : World), (callFunc n args).run P w = .ok (.enter n args) w
theorem zFl {n : Nat} {fn : Func} (hf : P.funcs[n]? = some fn) (hb : fn.body.isNone = false) (hn : (fn.name == "runtime.NumGoroutine") = false) : zCm P n := fun args w => callFunc_run hf hb hn args w
theorem zC1 {n : Nat} (h : zCm P n) (args' cap' : List Value) (w : World) : (zDb (.func (.func n) ⟨[]⟩ ⟨cap'⟩) args').run P w = .ok (.enter n ⟨args' ++ cap'⟩) w := by
 unfold zDb
 simp only [Deferred.ofValue, invoke, Sem.run_bind, Sem.run_pure, Result.andThen_ok]
 rw [h]
 simp
def zAv (P : Program) (last : CF R) (H : R → Prop) : Prop := ∀ ρ₀, zDM P last H ρ₀
theorem zAn (hA : Holds A H) (hmix : P.follows .mixedOrders = true) {tab : Nat → Option zAr} (ht : zDx P tab) {last : CF R} (hl : zAv P last H) : ∀ (d : Nat), CFOk P (zAt A tab last d) H
 | 0 => fun _ ρ₀ _ => hl ρ₀
 | d + 1 => by
  intro Y ρ₀ hY ρ m w f f' args args' K hle hm hf ha hH
  simp only [zAt] at hH
  split at hH
  ·rename_i g cap
   cases hf with | func h1 h2 =>
   cases h1
   split at hH
   ·rename_i af haf
    obtain ⟨fn, h3, h4, h5⟩ := ht g af haf
    exact .inl ⟨g, _, zC1 (zFl h3 (zEo h4) h5) _ _ w, zEJ hA (zAn hA hmix ht hl d) hmix h3 h4 (hY.mono hle) hm (ha.append h2) hH⟩
   ·exact hl ρ₀ ρ m w _ _ args args' K hle hm (.func .nil h2) ha hH
  ·rename_i l
   split at hH
   ·rename_i h hyl
    cases hf with | yield hb =>
    obtain ⟨i', hi', hdo⟩ := hY l h hyl ρ hle
    rw [hb] at hi'
    cases hi'
    exact hdo m w args args' K hm ha hH
   ·exact (hA.fail hH).elim
  ·exact hl ρ₀ ρ m w _ f' args args' K hle hm hf ha hH
theorem last_none (hA : Holds A H) : zAv P (fun _ _ _ _ => A.fail : CF R) H := by
 intro ρ₀ ρ m w f f' args args' K hle hm hf ha hH
 exact (hA.fail hH).elim
theorem calls_am (hA : Holds A H) (hmix : P.follows .mixedOrders = true) {tab : Nat → Option zAr} (ht : zDx P tab) {last : CF R} (hl : zAv P last H) (d : Nat) {f : FuncId} {af : zAr} (hf : tab f = some af) {ρ : Ren} {m : Mem} {w : World} (hm : MR ρ m w)
  {args : List V} {args' : List Value} (ha : VRs ρ args args') {K : V → Mem → R} (hH : H (zAt A tab last (d + 1) Ys.none (.func (.func f) [] []) args m K)) {Rr : Ending → World → Prop}
  (hR : ∀ (ρ' : Ren) (v : V) (v' : Value) (m' : Mem) (w' : World), VR ρ' v v' → MR ρ' m' w' → Ext ρ m w ρ' m' w' → H (K v m') → Rr (.returned v') w') : Calls P f ⟨args'⟩ w Rr := by
 obtain ⟨fn, h3, h4, h5⟩ := ht f af hf
 simp only [zAt, hf, List.append_nil] at hH
 refine (zEJ hA (zAn hA hmix ht hl d) hmix h3 h4 YOk.none hm ha hH).mono fun e w' he => ?_
 cases e with
 | returned v' => obtain ⟨ρ', v, m', g1, g2, g3, g4⟩ := he; exact hR ρ' v v' m' w' g1 g2 g3 g4
 | panicked c => exact he.elim
 | outgrown => exact he.elim
end
end Go.AM
namespace Go.AM
open Go
theorem Ext.stays {ρ ρ' : Ren} {m m' : Mem} {w w' : World} (h : Ext ρ m w ρ' m' w') (hro : ∀ b i o, ρ b = some i → m.get b = some o → o.wr = false) : zCd w w' :=
 ⟨h.mute, fun k hk => h.keep k hk fun b i o hb _ ho => hro b i o hb ho⟩
theorem zCd.kept {w w' : World} (h : zCd w w') (may : MemPlace → Prop) : w.keptBut w' may := by
 refine ⟨h.1.1, h.1.2, fun i hi => ?_⟩
 rw [h.2 i hi]
 cases e : w.heap[i]? with
 | none => rfl
 | some o => cases o <;> first | exact ⟨rfl, rfl, rfl, fun _ _ => rfl⟩ | exact .inr ⟨rfl, rfl⟩ | rfl
theorem zCd.frozen {w w' : World} (h : zCd w w') {a : Addr} (ha : a.block < w.heap.size) : w'.frozen? a = w.frozen? a := by
 unfold World.frozen?
 rw [h.2 _ ha]
open Go.WideShapes Go.ChangeShapes in
theorem post_stays {H : Type} {enc : TypeId × Value → H} {P : Program} {f : Func} {s : ChangeSpec} {apart fresh handsOn again : Bool} {W W' : World} {args : Array Value} {v : Value} {ds gs : List (DataW H)} {before pa pv : List MemPlace}
  (hW : DataW.Whole enc P f.params.toList s.vars apart W args.toList ds gs before)
  (hres : ∀ (b : Nat) (sp : Nat → Bool) (hd : Bool), DataW.TrodAll enc P W' b sp hd f.resultTypes.toList (v.resultList f.resultTypes.size) (s.fn H (ds ++ gs)).results [])
  (hargs : ∀ sp : Nat → Bool, (∀ p ∈ before, sp p.block = true) → DataW.TrodAll enc P W' 0 sp true f.params.toList args.toList (s.fn H (ds ++ gs)).args pa)
  (hvars : ∀ sp : Nat → Bool, (∀ p ∈ before, sp p.block = true) → DataW.TrodVars enc P W' sp s.vars (s.fn H (ds ++ gs)).vars pv)
  (hps : before = pa ++ pv) (hst : zCd W W')
  (hok : ∀ (j : Nat) (t : TypeId) (r : Value), f.resultTypes[j]? = some t → (v.resultList f.resultTypes.size)[j]? = some r → Value.okWide P W' .any 0 t r) :
  s.post enc P f apart fresh handsOn again W args v W' := by
 have hk : W.keptBut W' (· ∈ before) := hst.kept _
 have hlt : ∀ p ∈ before, p.block < W.heap.size := fun p hp => hW.lt p hp
 have hold : ∀ p ∈ before, (fun b => decide (b < W.heap.size)) p.block = true := fun p hp => by simpa using hW.lt p hp
 refine ⟨ds, gs, before, [], pa, pv, hW, hres _ _ _, hargs _ hold, hvars _ hold, World.keptBut_mono (fun p hp => ⟨hp, ?_⟩) hk, fun _ => ?_⟩
 ·rw [hps, List.mem_append] at hp
  exact Or.inr hp
 ·obtain ⟨_, _, _, _, _, hz, hn⟩ := hW
  refine ⟨hok, _, _, ([] ++ pa) ++ pv, ⟨[] ++ pa, pv, trodAll_append (hargs _ (fun _ _ => rfl)) (hres _ _ _), hvars _ (fun _ _ => rfl), rfl, ?_, ?_⟩, ?_⟩
  ·intro b off hp
   have hp' : MemPlace.cell b off ∈ before := by rw [hps]; simpa using hp
   rw [hst.frozen (hlt _ hp')]
   exact hz b off hp'
  ·intro ha
   have := hn ha
   rw [hps] at this
   simpa using this
  ·intro p hp _
   rw [hps]
   simpa using hp
inductive FT where
 | leaf
 | node (v : Option zAr) (l r : FT)
def FT.get : FT → Nat → Option zAr
 | .leaf, _ => none
 | .node v l r, n => bif Nat.beq n 0 then v else bif Nat.beq (n % 2) 1 then l.get (n / 2) else r.get (n / 2 - 1)
def FOk (P : Program) (f : Nat) (af : zAr) : Prop := ∃ fn, P.funcs[f]? = some fn ∧ zCU P fn = some af ∧ (fn.name == "runtime.NumGoroutine") = false
theorem FOk.mk {P : Program} {f : Nat} {af : zAr} {fn : Func} (h1 : P.funcs[f]? = some fn) (h2 : zCU P fn = some af) (h3 : (fn.name == "runtime.NumGoroutine") = false) : FOk P f af := ⟨fn, h1, h2, h3⟩
def FT.Ok (P : Program) : FT → Nat → Nat → Prop
 | .leaf, _, _ => True
 | .node v l r, a, b => (match v with | none => True | some af => FOk P b af) ∧ l.Ok P (2 * a) (a + b) ∧ r.Ok P (2 * a) (2 * a + b)
theorem FT.get_ok {P : Program} : ∀ (t : FT) (a b : Nat), t.Ok P a b → ∀ (n : Nat) (af : zAr), t.get n = some af → FOk P (n * a + b) af
 | .leaf, _, _, _, n, af, h => by cases h
 | .node v l r, a, b, ⟨h1, h2, h3⟩, n, af, h => by
  simp only [FT.get] at h
  by_cases h0 : n = 0
  ·subst h0
   simp only [Nat.beq_refl, cond_true] at h
   subst h
   simpa using h1
  ·rw [zAS h0, cond_false] at h
   by_cases h4 : n % 2 = 1
   ·rw [zCG h4, cond_true] at h
    have := FT.get_ok l _ _ h2 _ _ h
    have e : n / 2 * (2 * a) + (a + b) = n * a + b := by
     have e2 : n = 2 * (n / 2) + 1 := by omega
     generalize n / 2 = k at *
     subst e2
     rw [Nat.add_mul, Nat.mul_assoc, ← Nat.mul_assoc k 2 a, Nat.mul_comm k 2, Nat.mul_assoc 2 k a, Nat.one_mul]
     omega
    rw [e] at this; exact this
   ·rw [zAS h4, cond_false] at h
    have := FT.get_ok r _ _ h3 _ _ h
    have e : (n / 2 - 1) * (2 * a) + (2 * a + b) = n * a + b := by
     have e2 : n = 2 * (n / 2 - 1) + 2 := by omega
     generalize n / 2 - 1 = k at *
     subst e2
     rw [Nat.add_mul, Nat.mul_assoc, ← Nat.mul_assoc k 2 a, Nat.mul_comm k 2, Nat.mul_assoc 2 k a]
     omega
    rw [e] at this; exact this
theorem FT.tabOk {P : Program} {t : FT} (h : t.Ok P 1 0) : zDx P t.get := by
 intro f af hf
 have := FT.get_ok t 1 0 h f af hf
 rw [Nat.mul_one, Nat.add_zero] at this
 exact this
def zGm : Ans Bool := ⟨false, and⟩
theorem boolHolds : Holds zGm (fun b => b = true) :=
 ⟨fun h => (Bool.false_ne_true h), fun x y h => by simpa [zGm] using h⟩
def lastF : CF Bool := fun _ _ _ _ => false
def endB (v : V) (_ : Mem) : Bool := match v with | .bool b => b | _ => false
theorem lastF_ok {P : Program} : zAv P lastF (fun b => b = true) := last_none (A := zGm) boolHolds
theorem mr_none (m : Mem) (w : World) : MR (fun _ => none) m w where
 lt := fun b i h => nomatch h
 obj := fun b i o h => nomatch h
 inj := fun b c i j o u h => nomatch h
end Go.AM
namespace Go.AM
open Go Go.WideShapes Go.ChangeShapes Go.RowKit
def szB (P : Program) : Bool := (List.range P.types.size).all fun t => match P.underlying t with | some (.slice e) => decide (0 < P.cellsOf e) | _ => true
theorem szB_sound {P : Program} (h : szB P = true) {t e : TypeId} (ht : t < P.types.size) (hu : P.underlying t = some (.slice e)) : 0 < P.cellsOf e := by
 have := List.all_eq_true.1 h t (List.mem_range.2 ht)
 rw [hu] at this
 simpa using this
theorem zCd.same {w w' : World} (h : zCd w w') {p : MemPlace} (hp : p.block < w.heap.size) : w.sameAt w' p := by
 cases p with
 | cell b off =>
  show w'.cell? ⟨b, off, none⟩ = w.cell? ⟨b, off, none⟩
  unfold World.cell?
  rw [h.2 b hp]
 | map b => exact h.2 b hp
theorem zFt {H : Type} {enc : TypeId × Value → H} {P : Program} {W W' : World} (hl : laidOutB P = true) (hm : mapsRowed P = true) (hz : szB P = true) (hst : zCd W W') {sp : Nat → Bool} :
  ∀ (ts : List TypeId) (vs : List Value) (ds : List (DataW H)) (ps : List MemPlace), (∀ t ∈ ts, t < P.types.size) → DataW.TrodAll enc P W 0 (fun _ => true) true ts vs ds ps → (∀ p ∈ ps, sp p.block = true) →
   DataW.TrodAll enc P W' 0 sp true ts vs ds ps
 | [], [], [], ps, _, h, _ => h
 | t :: ts, v :: vs, d :: ds, ps, ht, ⟨p, q, ⟨n, hn⟩, h2, e⟩, hs => by
  subst e
  refine ⟨p, q, ⟨n, ?_⟩, zFt hl hm hz hst ts vs ds q (fun u hu => ht u (List.mem_cons_of_mem _ hu)) h2 (fun x hx => hs x (List.mem_append_right _ hx)), rfl⟩
  refine DataW.trod_stays (kids_rows hl hm) (fun ht hu => szB_sound hz ht hu) (fun h => by cases h) (ht t List.mem_cons_self) hn (fun x hx => hst.same ?_) (fun x hx => hs x (List.mem_append_left _ hx))
  exact DataW.trod_lt n t _ _ hn x hx
theorem law_lifted {C : Checked} {os : Os} {H : Type} {enc : TypeId × Value → H} {f : FuncId} {fn : Func} {s : ChangeSpec} {conds : List PathCond} {tb : TypeId}
  (own : ownKnob C.prog.godebug = none) (started : os.Started) (noInit : C.prog.inits.idxOf? f = none) (hf : C.prog.funcs[f]? = some fn)
  (witness : ∃ (w : World) (tape : Tape) (i : Input), w.os = os ∧ (w.forCall tape i).Shaped C.prog ∧ i.vars = [] ∧ Input.okWide C.prog (w.forCall tape i) .any w.heap.size f i ∧
   s.pre6 enc C.prog fn conds false (w.forCall tape i).memory i.args ∧ ({} : Assume).holds C.prog (lone (Frame.enter C.prog f i.args .normal) [] (w.forCall tape i)))
  (hl : laidOutB C.prog = true) (hm : mapsRowed C.prog = true) (hz : szB C.prog = true) (hpar : (fn.params.toList.all fun t => decide (t < C.prog.types.size)) = true)
  (hres : fn.resultTypes = #[tb]) (htb : C.prog.underlying tb = some .bool) (hvars : s.vars = [])
  (hfn : ∀ ds : List (DataW H), ds.length = fn.params.size → (s.fn H ds).results = [.lit (.bool true)] ∧ (s.fn H ds).args = ds ∧ (s.fn H ds).vars = [])
  (contract : ∀ (W : World) (base : Nat) (args : Array Value) (ds : List (DataW H)) (p : List MemPlace),
   (∀ (j : Nat) t v, fn.params[j]? = some t → args[j]? = some v → Value.okWide C.prog W .any base t v) →
   DataW.TrodAll enc C.prog W 0 (fun _ => true) true fn.params.toList args.toList ds p → Calls C.prog f args W fun e w' => e = .returned (.bool true) ∧ zCd W w') :
  ReturnsInHanded {} C os f .any (s.pre6 enc C.prog fn conds false) (s.post enc C.prog fn false true false false) := by
 refine returnsInHanded_of_change (C := C) own started noInit hf witness ?_
 intro W base args ds gs before hval hW _ _
 have hW' := hW
 obtain ⟨p, q, hA, hV, rfl, hfz, hnd⟩ := hW
 rw [hvars] at hV
 obtain ⟨rfl, rfl⟩ : gs = [] ∧ q = [] := by
  cases gs with
  | nil => exact ⟨rfl, hV⟩
  | cons a b => exact hV.elim
 have hlen : ∀ (ts : List TypeId) (vs : List Value) (ds : List (DataW H)) (ps : List MemPlace), DataW.TrodAll enc C.prog W 0 (fun _ => true) true ts vs ds ps → ds.length = ts.length := by
  intro ts
  induction ts with
  | nil => intro vs ds ps h; cases vs <;> cases ds <;> first | rfl | exact h.elim
  | cons t ts ih =>
   intro vs ds ps h
   cases vs <;> cases ds <;> first | exact h.elim | (obtain ⟨_, _, _, h2, _⟩ := h; simp [ih _ _ _ h2])
 obtain ⟨h1, h2, h3⟩ := hfn ds (by simpa using hlen _ _ _ _ hA)
 refine (contract W base args ds p hval hA).mono fun e W' ⟨he, hg⟩ => ?_
 subst he
 refine ⟨_, rfl, post_stays (pa := p) (pv := []) hW' (fun b sp hd => ?_) (fun sp hsp => ?_) (fun sp _ => ?_) rfl hg (ok_one hres rfl (okWide_bool_mk htb _))⟩
 ·rw [List.append_nil, h1, hres]
  exact trodAll_cons_mk (shut_bool htb _) trodAll_mk0
 ·rw [List.append_nil, h2]
  exact zFt hl hm hz hg _ _ _ _ (fun t ht => of_decide_eq_true (List.all_eq_true.1 hpar t ht)) hA fun x hx => hsp x (by simpa using hx)
 ·rw [List.append_nil, h3, hvars]
  rfl
def zC8 {R : Type} (n : Nat) (last : CF R) : CF R := fun f args m K =>
 match f, args with
 | .func (.func g) [] [], [] => bif Nat.beq g n then K (.bool true) m else last (.func (.func g) [] []) [] m K
 | f, args => last f args m K
theorem lastW_ok {R : Type} {H : R → Prop} {P : Program} {n : Nat} {af : zAr} (hok : FOk P n af) (hc : ∀ w, Calls P n #[] w fun e w' => e = .returned (.bool true) ∧ zCd w w') {last : CF R} (hl : zAv P last H) : zAv P (zC8 n last) H := by
 intro ρ₀ ρ m w f f' args args' K hle hm hf ha hH
 unfold zC8 at hH
 split at hH
 ·rename_i g
  by_cases e : g = n
  ·subst e
   rw [zCG rfl, cond_true] at hH
   cases hf with | func h1 h2 =>
   cases h1; cases h2; cases ha
   obtain ⟨fn, h3, h4, h5⟩ := hok
   refine .inl ⟨g, _, zC1 (zFl h3 (zEo h4) h5) _ _ w, (hc w).mono fun e w' ⟨he, hs⟩ => ?_⟩
   subst he
   exact ⟨ρ, .bool true, m, .bool true, hm.stays hs, Ext.of_stays hs, hH⟩
  ·rw [zAS e, cond_false] at hH
   exact hl ρ₀ ρ m w _ f' _ args' K hle hm hf ha hH
 ·exact hl ρ₀ ρ m w f f' args args' K hle hm hf ha hH
def without (tab : Nat → Option zAr) (n : Nat) (f : Nat) : Option zAr := bif Nat.beq f n then none else tab f
theorem zF5 {P : Program} {tab : Nat → Option zAr} (h : zDx P tab) (n : Nat) : zDx P (without tab n) := by
 intro f af hf
 unfold without at hf
 by_cases e : f = n
 ·rw [zCG e, cond_true] at hf; cases hf
 ·rw [zAS e, cond_false] at hf; exact h f af hf
theorem open_calls {P : Program} (hmix : P.follows .mixedOrders = true) {tab : Nat → Option zAr} (ht : zDx P tab) {last : CF Bool} (hl : zAv P last (fun b => b = true)) {d : Nat} {f : Nat} {af : zAr} (hf : tab f = some af)
  {args : List V} {args' : List Value} (ha : VRs (fun _ => none) args args')
  (h : zAt zGm tab last (d + 1) Ys.none (.func (.func f) [] []) args ⟨0, .leaf⟩ endB = true) (w : World) : Calls P f ⟨args'⟩ w fun e w' => e = .returned (.bool true) ∧ zCd w w' := by
 refine calls_am (A := zGm) boolHolds hmix ht hl d hf (mr_none ⟨0, .leaf⟩ w) ha h fun ρ' v v' m' w' hv _ hx hK => ?_
 refine ⟨?_, hx.stays fun b i o h => nomatch h⟩
 unfold endB at hK
 split at hK
 ·subst hK
  cases hv
  rfl
 ·cases hK
end Go.AM
namespace Go.AM
open Go
def pA : Ans Prop := ⟨False, And⟩
theorem zAX : Holds pA id := ⟨id, fun _ _ h => h⟩
section
variable {cf : CF Prop} {cfy : Ys Prop → CF Prop} {Y : Ys Prop}
section arith
variable {x y : Opd} {T : zAa} {m : Mem} {k : IntKind} {a b : Int}
end arith
section u32
variable {x y : Opd} {T : zAa} {m : Mem} {a b : Nat}
end u32
section is
variable {x : Opd} {T : zAa} {m : Mem} {nx : Nat} {v : V}
end is
section mem
variable {x y : Opd} {T : zAa} {m : Mem}
end mem
section sto
variable {x y : Opd} {T : zAa} {m : Mem}
end sto
end
end Go.AM
namespace Go.AM
open Go
mutual
def V.plain : V → Bool
 | .bool _ | .int _ _ | .str _ | .nilptr | .nilslice | .nilmap | .nilfunc | .niliface => true
 | .iface _ v => v.plain
 | .agg cs | .tuple cs => plains cs
 | _ => false
def plains : List V → Bool
 | [] => true
 | v :: l => v.plain && plains l
end
mutual
theorem VR.any {ρ ρ' : Ren} : ∀ {v : V} {v' : Value}, VR ρ v v' → v.plain = true → VR ρ' v v'
 | _, _, .bool b, _ => .bool b
 | _, _, .int k n, _ => .int k n
 | _, _, .str s, _ => .str s
 | _, _, .ptr _, h => by simp [V.plain] at h
 | _, _, .nilptr, _ => .nilptr
 | _, _, .slice _ _ _ _ _, h => by simp [V.plain] at h
 | _, _, .nilslice, _ => .nilslice
 | _, _, .map _, h => by simp [V.plain] at h
 | _, _, .nilmap, _ => .nilmap
 | _, _, .func _ _, h => by simp [V.plain] at h
 | _, _, .nilfunc, _ => .nilfunc
 | _, _, .yield _, h => by simp [V.plain] at h
 | _, _, .iface hv, h => .iface (VR.any hv (by simpa [V.plain] using h))
 | _, _, .niliface, _ => .niliface
 | _, _, .agg hc, h => .agg (VRs.any hc (by simpa [V.plain] using h))
 | _, _, .tuple hc, h => .tuple (VRs.any hc (by simpa [V.plain] using h))
theorem VRs.any {ρ ρ' : Ren} : ∀ {l : List V} {l' : List Value}, VRs ρ l l' → plains l = true → VRs ρ' l l'
 | _, _, .nil, _ => .nil
 | _, _, .cons hv hl, h => by
  simp only [plains, Bool.and_eq_true] at h
  exact .cons (VR.any hv h.1) (VRs.any hl h.2)
end
def Answers (P : Program) (n : Nat) (args' : List Value) (v : V) : Prop :=
 ∀ w, Calls P n ⟨args'⟩ w fun e w' => ∃ v', e = .returned v' ∧ (∀ ρ, VR ρ v v') ∧ zCd w w'
theorem zAy {P : Program} (hmix : P.follows .mixedOrders = true) {n : Nat} {af : zAr} (hok : FOk P n af) {cfy : Ys Prop → CF Prop} (hcf : CFOk P cfy id) {args : List V} {args' : List Value} {ρ : Ren} (ha : VRs ρ args args') (hp : plains args = true)
  {v : V} (hv : v.plain = true) (hw : ∀ K : V → Mem → Prop, (∀ m, K v m) → zAD pA cfy Ys.none af args ⟨0, .leaf⟩ K) : Answers P n args' v := by
 intro w
 obtain ⟨fn, h3, h4, _⟩ := hok
 have h := zEJ (A := pA) (H := id) zAX hcf hmix h3 h4 (Y := Ys.none) (ρ := fun _ => none) YOk.none (mr_none ⟨0, .leaf⟩ w) (VRs.any ha hp) (K := fun u _ => u = v) (hw _ fun _ => rfl)
 refine h.mono fun e w' he => ?_
 cases e with
 | panicked c => exact he.elim
 | outgrown => exact he.elim
 | returned v' =>
  obtain ⟨ρ', u, m', g1, _, g3, g4⟩ := he
  have g4' : u = v := g4
  subst g4'
  exact ⟨v', rfl, fun ρ => g1.any hv, g3.stays fun b i o h => nomatch h⟩
def zAi {R : Type} (n : Nat) (S : List V → Option V) (last : CF R) : CF R := fun f args m K =>
 match f with
 | .func (.func g) [] [] => bif Nat.beq g n then (match S args with | some v => K v m | none => last (.func (.func g) [] []) args m K) else last (.func (.func g) [] []) args m K
 | f => last f args m K
theorem zA9 {R : Type} {H : R → Prop} {P : Program} {n : Nat} (hcl : zCm P n) {S : List V → Option V} (hS : ∀ (ρ : Ren) (args : List V) (args' : List Value) (v : V), S args = some v → VRs ρ args args' → Answers P n args' v) {last : CF R} (hl : zAv P last H) :
  zAv P (zAi n S last) H := by
 intro ρ₀ ρ m w f f' args args' K hle hm hf ha hH
 unfold zAi at hH
 split at hH
 ·rename_i g
  by_cases e : g = n
  ·subst e
   rw [zCG rfl, cond_true] at hH
   split at hH
   ·rename_i v hv
    cases hf with | func h1 h2 =>
    cases h1; cases h2
    refine .inl ⟨g, _, zC1 hcl _ _ w, ?_⟩
    rw [List.append_nil]
    refine (hS ρ args args' v hv ha w).mono fun e w' ⟨v', he, hvr, hs⟩ => ?_
    subst he
    exact ⟨ρ, v, m, hvr ρ, hm.stays hs, Ext.of_stays hs, hH⟩
   ·exact hl ρ₀ ρ m w _ f' args args' K hle hm hf ha hH
  ·rw [zAS e, cond_false] at hH
   exact hl ρ₀ ρ m w _ f' args args' K hle hm hf ha hH
 ·exact hl ρ₀ ρ m w f f' args args' K hle hm hf ha hH
theorem w_lastW {n : Nat} {last : CF Prop} {m : Mem} {K : V → Mem → Prop} (h : K (.bool true) m) : zC8 n last (.func (.func n) [] []) [] m K := by
 simp only [zC8, Nat.beq_refl, cond_true]; exact h
end Go.AM
namespace Go.AM
open Go
section
variable {P : Program} {w : World} {r : Reach} {b : Nat} {t : TypeId} {ts : List TypeId} {l : List Value} {v : Value}
end
section
variable {cf : CF Prop}
def V.refl : V → Bool
 | .bool _ | .int _ _ | .ptr _ _ | .nilptr | .slice _ _ _ _ _ | .nilslice | .map _ | .nilmap | .nilfunc | .niliface => true
 | _ => false
end
end Go.AM
