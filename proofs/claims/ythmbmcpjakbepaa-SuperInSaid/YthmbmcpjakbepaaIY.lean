/- The law by its cases. No condition. -/
import Derived.Test.YthmbmcpjakbepaaIW
import Derived.Test.YthmbmcpjakbepaaKG
namespace Go.Proofs.Ythmbmcpjakbepaa
open Go Go.AM
set_option maxRecDepth 100000
set_option maxHeartbeats 4000000
section
variable {a l n r E p x0 x1 x2 x3 c : Int}
theorem right_m (h : rightS a 0 l n r E p x0 x1 x2 x3 c = true) {M F : Int} (h0 : 0 ≤ M) (hM : M < n) (h1 : 1 ≤ F) (h2 : F ≤ 2147483647) : rightS a M l n r F p x0 x1 x2 x3 c = true := by
  rw [rightS_eq, decide_eq_true_eq] at h ⊢
  unfold rightP at h ⊢
  obtain ⟨k1, k2, k3, k4, k5, k6, k7, k8⟩ := h
  exact ⟨k1, k2, k3, h0, hM, h1, h2, k8⟩
theorem right_n (h : rightS a 0 l n r E p x0 x1 x2 x3 c = true) : (n = 2 ∨ n = 3 ∨ n = 4) ∧ 1 ≤ x0 ∧ x0 ≤ 3 ∧ 1 ≤ x1 ∧ x1 ≤ 3 ∧ (n ≤ 2 ∧ x2 = 0 ∨ 3 ≤ n ∧ 1 ≤ x2 ∧ x2 ≤ 3) ∧ (n ≤ 3 ∧ x3 = 0 ∨ 4 ≤ n ∧ 1 ≤ x3 ∧ x3 ≤ 3) := by
  rw [rightS_eq, decide_eq_true_eq] at h
  unfold rightP rgP at h
  obtain ⟨k1, k2, k3, k4, k5, k6, k7, k8, k9, j0, j1, j2, j3, j4, j5, _⟩ := h
  exact ⟨by omega, j0, j1, j2, j3, j4, j5⟩
theorem of_z (h : rightS a 0 l n r E p x0 x1 x2 x3 c = true) {M F : Int} (h0 : 0 ≤ M) (hM : M < n) (h1 : 1 ≤ F) (h2 : F ≤ 2147483647) : ofRs [.str zz, .str (txtS a M l n r F p x0 x1 x2 x3 c)] = some (.tuple [sup a M l n r F p x0 x1 x2 x3 c, .int .i64 0, .bool true]) := by
  have hr := right_m h h0 hM h1 h2
  have hb := back_all hr
  rw [← txtS_y hr] at hb
  obtain ⟨e1, f4, f8, f12, f16, f20, f24, f28, f36, f40, f44, f48, f32⟩ := hb
  exact ofR_2 ⟨fun x => errR_zz x.1, e1⟩ f4 f8 f12 f16 f20 f24 f28 f36 f40 f44 f48 f32
end
theorem maxE_fold (E : Int) : ∀ (l : List Sp) (g : Int), (∀ s ∈ l, s.e ≤ E) → g ≤ E → (g = E ∨ ∃ s ∈ l, s.e = E) → l.foldl (fun g s => bif decide (s.e > g) then s.e else g) g = E
  | [], g, _, _, h => by
    rcases h with h | ⟨s, h, _⟩
    · exact h
    · cases h
  | s :: l, g, h1, h2, h3 => by
    rw [List.foldl_cons]
    have hs := h1 s List.mem_cons_self
    refine maxE_fold E l _ (fun t ht => h1 t (List.mem_cons_of_mem _ ht)) ?_ ?_
    · by_cases e : s.e > g <;> simp only [e, decide_true, decide_false, cond_true, cond_false] <;> omega
    · by_cases e : s.e > g
      · simp only [e, decide_true, cond_true]
        rcases h3 with h3 | ⟨t, ht, h4⟩
        · exact .inl (by omega)
        · rcases List.mem_cons.1 ht with rfl | ht
          · exact .inl h4
          · exact .inr ⟨t, ht, h4⟩
      · simp only [e, decide_false, cond_false]
        rcases h3 with h3 | ⟨t, ht, h4⟩
        · exact .inl h3
        · rcases List.mem_cons.1 ht with rfl | ht
          · exact .inl (by omega)
          · exact .inr ⟨t, ht, h4⟩
theorem pick_fold (E : Int) (hE : E ≠ 0) (w : Sp → Nat) : ∀ (l : List Sp) (o : Sp), (o.e = 0 ∨ o.e = E) → (o.e = E ∨ ∃ s ∈ l, s.e = E) → (l.foldl (pickF E w) o).e = E
  | [], o, _, h => by
    rcases h with h | ⟨s, h, _⟩
    · exact h
    · cases h
  | s :: l, o, h1, h2 => by
    rw [List.foldl_cons]
    unfold pickF
    split
    · rename_i h; exact pick_fold E hE w l s (.inr h.1) (.inl h.1)
    · rename_i h
      refine pick_fold E hE w l o h1 ?_
      rcases h2 with h2 | ⟨t, ht, h4⟩
      · exact .inl h2
      · rcases List.mem_cons.1 ht with rfl | ht
        · exact .inl (h1.resolve_left fun e => h ⟨h4, .inl e⟩)
        · exact .inr ⟨t, ht, h4⟩
theorem pick_e {l : List Sp} {E : Int} (hE : 0 < E) (h1 : ∀ s ∈ l, s.e ≤ E) (h2 : ∃ s ∈ l, s.e = E) : (pick l).e = E := by
  have e : maxE l = E := maxE_fold E l 0 h1 (by omega) (.inr h2)
  unfold pick
  rw [e]
  exact pick_fold E (by omega) _ l sp0 (.inl rfl) (.inr h2)
theorem gOf_e {D : Dk} {q : Int} {n : Nat} {E : Int} (hE : 0 < E) (h1 : ∀ i, i < n → isOwn D q i → (D.sp i).e ≤ E) {u : Nat} (hu : u < n) (ho : isOwn D q u) (he : (D.sp u).e = E) : ∃ v, v < n ∧ isOwn D q v ∧ gOf D q n = D.sp v ∧ (D.sp v).e = E := by
  have h : (gOf D q n).e = E := pick_e hE (fun s hs => by
    obtain ⟨x, hx, rfl⟩ := List.mem_map.1 hs
    obtain ⟨k1, k2, k3⟩ := mem_own.1 (show (x.1, x.2) ∈ own D q n from hx)
    rw [k3]; exact h1 _ k1 k2) ⟨D.sp u, List.mem_map.2 ⟨(u, D.sp u), mem_own.2 ⟨hu, ho, rfl⟩, rfl⟩, he⟩
  rcases gOf_cases D q n with e | ⟨v, k1, k2, e⟩
  · rw [e] at h; exact absurd h (by show (0 : Int) ≠ E; omega)
  · exact ⟨v, k1, k2, e, by rw [← e]; exact h⟩
theorem dkS_new {D : Dk} {q : Int} {g : Sp} {E : D4} {i : Nat} (h1 : isOwn D q i) (h2 : geoEq (D.sp i) g) (h3 : E.get (D.sp i).m < 0) : dkS D q g E i = E.put (D.sp i).m ((i : Nat) : Int) := by
  rw [dkS, if_pos ⟨h1, h2⟩]
  exact if_pos (.inl h3)
theorem fin_a {D : Dk} {g : Sp} {E : D4} {m x : Int} (hx : 1 ≤ x ∧ x ≤ 3) (h0 : E.get m ≥ 0) (he : g.e - 1 ≤ evO D (E.get m)) : nB (inB D g E m x == nB (eqI x 2)) = false := by
  rw [eqI_eq]
  simp only [inB, decide_eq_true h0, decide_eq_true he, Bool.true_and, Bool.and_true]
  have : x = 1 ∨ x = 2 ∨ x = 3 := by omega
  rcases this with rfl | rfl | rfl <;> rfl
theorem fin_b {D : Dk} {g : Sp} {E : D4} {m x : Int} (he : ¬ g.e - 1 ≤ evO D (E.get m)) : nB (inB D g E m x == false) = false := by
  simp only [inB, decide_eq_false he, Bool.and_false]; rfl
theorem own_ne {D : Dk} {q : Int} {n u : Nat} (hu : u < n) (ho : isOwn D q u) : own D q n ≠ [] := fun e => by
  have h : (u, D.sp u) ∈ own D q n := mem_own.2 ⟨hu, ho, rfl⟩
  rw [e] at h; cases h
def evI2 (E E0 : Int) (z1 z2 z3 i : Nat) : Int := match i with | 0 => (E - ((z1 % 3 : Nat) : Int)) | _ => E0
noncomputable def inD2 (a l r E E0 p x0 x1 x2 x3 c : Int) (z1 z2 z3 : Nat) : Dk := ⟨fun _ => zz, fun i => txtS a ((1 - i : Nat) : Int) l 2 r (evI2 E E0 z1 z2 z3 i) p x0 x1 x2 x3 c, fun i => ⟨a, ((1 - i : Nat) : Int), l, 2, r, evI2 E E0 z1 z2 z3 i, p, x0, x1, x2, x3, c⟩, fun _ => 0, fun _ => true⟩
theorem in_made2 {a l r E E0 p x0 x1 x2 x3 c : Int} {z1 z2 z3 : Nat} (h : rightS a 0 l 2 r E p x0 x1 x2 x3 c = true) (hE : 3 ≤ E) (hE2 : E ≤ 1073741824) (h0 : E0 = E) :
    ∃ (gg : Sp) (f0 f1 f2 f3 : Bool), S23 ⟨[.slice 0 0 2 2 2, .int .i64 a], [.cells [.str zz, .str (txtS a 1 l 2 r (E - ((z1 % 3 : Nat) : Int)) p x0 x1 x2 x3 c), .str zz, .str (txtS a 0 l 2 r E0 p x0 x1 x2 x3 c)] false], .tuple [.agg (mad gg.a gg.m gg.l gg.n gg.r E gg.p gg.x0 gg.x1 gg.x2 gg.x3 gg.c 1 0 (-1) (-1) f0 f1 f2 f3), .int .i64 0], [.cells [.str zz, .str (txtS a 1 l 2 r (E - ((z1 % 3 : Nat) : Int)) p x0 x1 x2 x3 c), .str zz, .str (txtS a 0 l 2 r E0 p x0 x1 x2 x3 c)] false], []⟩ ∧
      nB (f0 == nB (eqI x0 2)) = false ∧ (((z1 % 3 : Nat) : Int) < 2 → nB (f1 == nB (eqI x1 2)) = false) ∧ (¬ ((z1 % 3 : Nat) : Int) < 2 → nB (f1 == false) = false) := by
  obtain ⟨hn, y0, y1, y2, y3, y4, y5⟩ := right_n h
  have hev : ∀ i, E - 2 ≤ evI2 E E0 z1 z2 z3 i ∧ evI2 E E0 z1 z2 z3 i ≤ E := by
    intro i
    unfold evI2
    split <;> omega
  let D := inD2 a l r E E0 p x0 x1 x2 x3 c z1 z2 z3
  have hown : ∀ i, isOwn D a i := fun i => ⟨rfl, rfl⟩
  have ok : DkOk D ofRs [.str zz, .str (txtS a 1 l 2 r (E - ((z1 % 3 : Nat) : Int)) p x0 x1 x2 x3 c), .str zz, .str (txtS a 0 l 2 r E0 p x0 x1 x2 x3 c)] 2 := by
    refine ⟨by decide, fun p => rfl, ?_, fun i hi => ?_, fun i hi _ => ⟨.inl rfl, ?_, ?_, ?_⟩⟩
    · intro i hi
      match i, hi with
      | 0, _ => rfl
      | 1, _ => rfl
      | i + 2, hi => omega
    · exact of_z h (by omega) (by omega) (by have := (hev i).1; omega) (by have := (hev i).2; omega)
    · match i, hi with
      | 0, _ => exact .inr (.inl rfl)
      | 1, _ => exact .inl rfl
      | i + 2, hi => omega
    · have := (hev i).1; show 0 ≤ evI2 E E0 z1 z2 z3 i; omega
    · have := (hev i).2; show evI2 E E0 z1 z2 z3 i ≤ 4294967296; omega
  have hS := S23.mk D _ 2 2 a ok
  obtain ⟨v, v1, v2, v3, v4⟩ := gOf_e (D := D) (q := a) (n := 2) (E := E) (by omega) (fun i _ _ => (hev i).2) (u := 1) (by decide) (hown _) (show E0 = E from h0)
  have hgeo : ∀ i, geoEq (D.sp i) (gOf D a 2) := fun i => by rw [v3]; exact ⟨rfl, rfl, rfl⟩
  have hx : (gOf D a 2).x0 = x0 ∧ (gOf D a 2).x1 = x1 ∧ (gOf D a 2).x2 = x2 ∧ (gOf D a 2).x3 = x3 := by rw [v3]; exact ⟨rfl, rfl, rfl, rfl⟩
  have hge : (gOf D a 2).e = E := by rw [v3]; exact v4
  rw [show makeV D a 2 = _ from if_neg (own_ne (u := 0) (by decide) (hown 0))] at hS
  generalize gOf D a 2 = g at hS hgeo hx hge
  have hdk : dk D a g 2 = ⟨1, 0, -1, -1⟩ := by
    show dkS D a g (dkS D a g (⟨-1, -1, -1, -1⟩) 0) 1 = _
    rw [show dkS D a g (⟨-1, -1, -1, -1⟩ : D4) 0 = ⟨-1, 0, -1, -1⟩ from dkS_new (hown 0) (hgeo 0) (show (-1 : Int) < 0 by decide)]
    rw [show dkS D a g (⟨-1, 0, -1, -1⟩ : D4) 1 = ⟨1, 0, -1, -1⟩ from dkS_new (hown 1) (hgeo 1) (show (-1 : Int) < 0 by decide)]
  rw [hdk] at hS
  have q0 : inB D g (⟨1, 0, -1, -1⟩ : D4) 0 g.x0 = inB D g ⟨1, 0, -1, -1⟩ 0 x0 := by rw [hx.1]
  have q1 : inB D g (⟨1, 0, -1, -1⟩ : D4) 1 g.x1 = inB D g ⟨1, 0, -1, -1⟩ 1 x1 := by rw [hx.2.1]
  have q2 : inB D g (⟨1, 0, -1, -1⟩ : D4) 2 g.x2 = inB D g ⟨1, 0, -1, -1⟩ 2 x2 := by rw [hx.2.2.1]
  have q3 : inB D g (⟨1, 0, -1, -1⟩ : D4) 3 g.x3 = inB D g ⟨1, 0, -1, -1⟩ 3 x3 := by rw [hx.2.2.2]
  rw [q0, q1, q2, q3, madeA, hge] at hS
  refine ⟨g, _, _, _, _, hS, fin_a ⟨y0, y1⟩ (show (1 : Int) ≥ 0 by decide) (by rw [hge]; show E - 1 ≤ E0; omega), fun hz => fin_a ⟨y2, y3⟩ (show (0 : Int) ≥ 0 by decide) (by rw [hge]; show E - 1 ≤ E - ((z1 % 3 : Nat) : Int); omega), fun hz => fin_b (by rw [hge]; show ¬ E - 1 ≤ E - ((z1 % 3 : Nat) : Int); omega)⟩
def evI3 (E E0 : Int) (z1 z2 z3 i : Nat) : Int := match i with | 0 => (E - ((z2 % 3 : Nat) : Int)) | 1 => (E - ((z1 % 3 : Nat) : Int)) | _ => E0
noncomputable def inD3 (a l r E E0 p x0 x1 x2 x3 c : Int) (z1 z2 z3 : Nat) : Dk := ⟨fun _ => zz, fun i => txtS a ((2 - i : Nat) : Int) l 3 r (evI3 E E0 z1 z2 z3 i) p x0 x1 x2 x3 c, fun i => ⟨a, ((2 - i : Nat) : Int), l, 3, r, evI3 E E0 z1 z2 z3 i, p, x0, x1, x2, x3, c⟩, fun _ => 0, fun _ => true⟩
theorem in_made3 {a l r E E0 p x0 x1 x2 x3 c : Int} {z1 z2 z3 : Nat} (h : rightS a 0 l 3 r E p x0 x1 x2 x3 c = true) (hE : 3 ≤ E) (hE2 : E ≤ 1073741824) (h0 : E0 = E) :
    ∃ (gg : Sp) (f0 f1 f2 f3 : Bool), S23 ⟨[.slice 0 0 3 3 2, .int .i64 a], [.cells [.str zz, .str (txtS a 2 l 3 r (E - ((z2 % 3 : Nat) : Int)) p x0 x1 x2 x3 c), .str zz, .str (txtS a 1 l 3 r (E - ((z1 % 3 : Nat) : Int)) p x0 x1 x2 x3 c), .str zz, .str (txtS a 0 l 3 r E0 p x0 x1 x2 x3 c)] false], .tuple [.agg (mad gg.a gg.m gg.l gg.n gg.r E gg.p gg.x0 gg.x1 gg.x2 gg.x3 gg.c 2 1 0 (-1) f0 f1 f2 f3), .int .i64 0], [.cells [.str zz, .str (txtS a 2 l 3 r (E - ((z2 % 3 : Nat) : Int)) p x0 x1 x2 x3 c), .str zz, .str (txtS a 1 l 3 r (E - ((z1 % 3 : Nat) : Int)) p x0 x1 x2 x3 c), .str zz, .str (txtS a 0 l 3 r E0 p x0 x1 x2 x3 c)] false], []⟩ ∧
      nB (f0 == nB (eqI x0 2)) = false ∧ (((z1 % 3 : Nat) : Int) < 2 → nB (f1 == nB (eqI x1 2)) = false) ∧ (¬ ((z1 % 3 : Nat) : Int) < 2 → nB (f1 == false) = false) ∧ (((z2 % 3 : Nat) : Int) < 2 → nB (f2 == nB (eqI x2 2)) = false) ∧ (¬ ((z2 % 3 : Nat) : Int) < 2 → nB (f2 == false) = false) := by
  obtain ⟨hn, y0, y1, y2, y3, y4, y5⟩ := right_n h
  have hev : ∀ i, E - 2 ≤ evI3 E E0 z1 z2 z3 i ∧ evI3 E E0 z1 z2 z3 i ≤ E := by
    intro i
    unfold evI3
    split <;> omega
  let D := inD3 a l r E E0 p x0 x1 x2 x3 c z1 z2 z3
  have hown : ∀ i, isOwn D a i := fun i => ⟨rfl, rfl⟩
  have ok : DkOk D ofRs [.str zz, .str (txtS a 2 l 3 r (E - ((z2 % 3 : Nat) : Int)) p x0 x1 x2 x3 c), .str zz, .str (txtS a 1 l 3 r (E - ((z1 % 3 : Nat) : Int)) p x0 x1 x2 x3 c), .str zz, .str (txtS a 0 l 3 r E0 p x0 x1 x2 x3 c)] 3 := by
    refine ⟨by decide, fun p => rfl, ?_, fun i hi => ?_, fun i hi _ => ⟨.inr (.inl rfl), ?_, ?_, ?_⟩⟩
    · intro i hi
      match i, hi with
      | 0, _ => rfl
      | 1, _ => rfl
      | 2, _ => rfl
      | i + 3, hi => omega
    · exact of_z h (by omega) (by omega) (by have := (hev i).1; omega) (by have := (hev i).2; omega)
    · match i, hi with
      | 0, _ => exact .inr (.inr (.inl rfl))
      | 1, _ => exact .inr (.inl rfl)
      | 2, _ => exact .inl rfl
      | i + 3, hi => omega
    · have := (hev i).1; show 0 ≤ evI3 E E0 z1 z2 z3 i; omega
    · have := (hev i).2; show evI3 E E0 z1 z2 z3 i ≤ 4294967296; omega
  have hS := S23.mk D _ 3 3 a ok
  obtain ⟨v, v1, v2, v3, v4⟩ := gOf_e (D := D) (q := a) (n := 3) (E := E) (by omega) (fun i _ _ => (hev i).2) (u := 2) (by decide) (hown _) (show E0 = E from h0)
  have hgeo : ∀ i, geoEq (D.sp i) (gOf D a 3) := fun i => by rw [v3]; exact ⟨rfl, rfl, rfl⟩
  have hx : (gOf D a 3).x0 = x0 ∧ (gOf D a 3).x1 = x1 ∧ (gOf D a 3).x2 = x2 ∧ (gOf D a 3).x3 = x3 := by rw [v3]; exact ⟨rfl, rfl, rfl, rfl⟩
  have hge : (gOf D a 3).e = E := by rw [v3]; exact v4
  rw [show makeV D a 3 = _ from if_neg (own_ne (u := 0) (by decide) (hown 0))] at hS
  generalize gOf D a 3 = g at hS hgeo hx hge
  have hdk : dk D a g 3 = ⟨2, 1, 0, -1⟩ := by
    show dkS D a g (dkS D a g (dkS D a g (⟨-1, -1, -1, -1⟩) 0) 1) 2 = _
    rw [show dkS D a g (⟨-1, -1, -1, -1⟩ : D4) 0 = ⟨-1, -1, 0, -1⟩ from dkS_new (hown 0) (hgeo 0) (show (-1 : Int) < 0 by decide)]
    rw [show dkS D a g (⟨-1, -1, 0, -1⟩ : D4) 1 = ⟨-1, 1, 0, -1⟩ from dkS_new (hown 1) (hgeo 1) (show (-1 : Int) < 0 by decide)]
    rw [show dkS D a g (⟨-1, 1, 0, -1⟩ : D4) 2 = ⟨2, 1, 0, -1⟩ from dkS_new (hown 2) (hgeo 2) (show (-1 : Int) < 0 by decide)]
  rw [hdk] at hS
  have q0 : inB D g (⟨2, 1, 0, -1⟩ : D4) 0 g.x0 = inB D g ⟨2, 1, 0, -1⟩ 0 x0 := by rw [hx.1]
  have q1 : inB D g (⟨2, 1, 0, -1⟩ : D4) 1 g.x1 = inB D g ⟨2, 1, 0, -1⟩ 1 x1 := by rw [hx.2.1]
  have q2 : inB D g (⟨2, 1, 0, -1⟩ : D4) 2 g.x2 = inB D g ⟨2, 1, 0, -1⟩ 2 x2 := by rw [hx.2.2.1]
  have q3 : inB D g (⟨2, 1, 0, -1⟩ : D4) 3 g.x3 = inB D g ⟨2, 1, 0, -1⟩ 3 x3 := by rw [hx.2.2.2]
  rw [q0, q1, q2, q3, madeA, hge] at hS
  refine ⟨g, _, _, _, _, hS, fin_a ⟨y0, y1⟩ (show (2 : Int) ≥ 0 by decide) (by rw [hge]; show E - 1 ≤ E0; omega), fun hz => fin_a ⟨y2, y3⟩ (show (1 : Int) ≥ 0 by decide) (by rw [hge]; show E - 1 ≤ E - ((z1 % 3 : Nat) : Int); omega), fun hz => fin_b (by rw [hge]; show ¬ E - 1 ≤ E - ((z1 % 3 : Nat) : Int); omega), fun hz => fin_a (by omega) (show (0 : Int) ≥ 0 by decide) (by rw [hge]; show E - 1 ≤ E - ((z2 % 3 : Nat) : Int); omega), fun hz => fin_b (by rw [hge]; show ¬ E - 1 ≤ E - ((z2 % 3 : Nat) : Int); omega)⟩
def evI4 (E E0 : Int) (z1 z2 z3 i : Nat) : Int := match i with | 0 => (E - ((z3 % 3 : Nat) : Int)) | 1 => (E - ((z2 % 3 : Nat) : Int)) | 2 => (E - ((z1 % 3 : Nat) : Int)) | _ => E0
noncomputable def inD4 (a l r E E0 p x0 x1 x2 x3 c : Int) (z1 z2 z3 : Nat) : Dk := ⟨fun _ => zz, fun i => txtS a ((3 - i : Nat) : Int) l 4 r (evI4 E E0 z1 z2 z3 i) p x0 x1 x2 x3 c, fun i => ⟨a, ((3 - i : Nat) : Int), l, 4, r, evI4 E E0 z1 z2 z3 i, p, x0, x1, x2, x3, c⟩, fun _ => 0, fun _ => true⟩
theorem in_made4 {a l r E E0 p x0 x1 x2 x3 c : Int} {z1 z2 z3 : Nat} (h : rightS a 0 l 4 r E p x0 x1 x2 x3 c = true) (hE : 3 ≤ E) (hE2 : E ≤ 1073741824) (h0 : E0 = E) :
    ∃ (gg : Sp) (f0 f1 f2 f3 : Bool), S23 ⟨[.slice 0 0 4 4 2, .int .i64 a], [.cells [.str zz, .str (txtS a 3 l 4 r (E - ((z3 % 3 : Nat) : Int)) p x0 x1 x2 x3 c), .str zz, .str (txtS a 2 l 4 r (E - ((z2 % 3 : Nat) : Int)) p x0 x1 x2 x3 c), .str zz, .str (txtS a 1 l 4 r (E - ((z1 % 3 : Nat) : Int)) p x0 x1 x2 x3 c), .str zz, .str (txtS a 0 l 4 r E0 p x0 x1 x2 x3 c)] false], .tuple [.agg (mad gg.a gg.m gg.l gg.n gg.r E gg.p gg.x0 gg.x1 gg.x2 gg.x3 gg.c 3 2 1 0 f0 f1 f2 f3), .int .i64 0], [.cells [.str zz, .str (txtS a 3 l 4 r (E - ((z3 % 3 : Nat) : Int)) p x0 x1 x2 x3 c), .str zz, .str (txtS a 2 l 4 r (E - ((z2 % 3 : Nat) : Int)) p x0 x1 x2 x3 c), .str zz, .str (txtS a 1 l 4 r (E - ((z1 % 3 : Nat) : Int)) p x0 x1 x2 x3 c), .str zz, .str (txtS a 0 l 4 r E0 p x0 x1 x2 x3 c)] false], []⟩ ∧
      nB (f0 == nB (eqI x0 2)) = false ∧ (((z1 % 3 : Nat) : Int) < 2 → nB (f1 == nB (eqI x1 2)) = false) ∧ (¬ ((z1 % 3 : Nat) : Int) < 2 → nB (f1 == false) = false) ∧ (((z2 % 3 : Nat) : Int) < 2 → nB (f2 == nB (eqI x2 2)) = false) ∧ (¬ ((z2 % 3 : Nat) : Int) < 2 → nB (f2 == false) = false) ∧ (((z3 % 3 : Nat) : Int) < 2 → nB (f3 == nB (eqI x3 2)) = false) ∧ (¬ ((z3 % 3 : Nat) : Int) < 2 → nB (f3 == false) = false) := by
  obtain ⟨hn, y0, y1, y2, y3, y4, y5⟩ := right_n h
  have hev : ∀ i, E - 2 ≤ evI4 E E0 z1 z2 z3 i ∧ evI4 E E0 z1 z2 z3 i ≤ E := by
    intro i
    unfold evI4
    split <;> omega
  let D := inD4 a l r E E0 p x0 x1 x2 x3 c z1 z2 z3
  have hown : ∀ i, isOwn D a i := fun i => ⟨rfl, rfl⟩
  have ok : DkOk D ofRs [.str zz, .str (txtS a 3 l 4 r (E - ((z3 % 3 : Nat) : Int)) p x0 x1 x2 x3 c), .str zz, .str (txtS a 2 l 4 r (E - ((z2 % 3 : Nat) : Int)) p x0 x1 x2 x3 c), .str zz, .str (txtS a 1 l 4 r (E - ((z1 % 3 : Nat) : Int)) p x0 x1 x2 x3 c), .str zz, .str (txtS a 0 l 4 r E0 p x0 x1 x2 x3 c)] 4 := by
    refine ⟨by decide, fun p => rfl, ?_, fun i hi => ?_, fun i hi _ => ⟨.inr (.inr rfl), ?_, ?_, ?_⟩⟩
    · intro i hi
      match i, hi with
      | 0, _ => rfl
      | 1, _ => rfl
      | 2, _ => rfl
      | 3, _ => rfl
      | i + 4, hi => omega
    · exact of_z h (by omega) (by omega) (by have := (hev i).1; omega) (by have := (hev i).2; omega)
    · match i, hi with
      | 0, _ => exact .inr (.inr (.inr rfl))
      | 1, _ => exact .inr (.inr (.inl rfl))
      | 2, _ => exact .inr (.inl rfl)
      | 3, _ => exact .inl rfl
      | i + 4, hi => omega
    · have := (hev i).1; show 0 ≤ evI4 E E0 z1 z2 z3 i; omega
    · have := (hev i).2; show evI4 E E0 z1 z2 z3 i ≤ 4294967296; omega
  have hS := S23.mk D _ 4 4 a ok
  obtain ⟨v, v1, v2, v3, v4⟩ := gOf_e (D := D) (q := a) (n := 4) (E := E) (by omega) (fun i _ _ => (hev i).2) (u := 3) (by decide) (hown _) (show E0 = E from h0)
  have hgeo : ∀ i, geoEq (D.sp i) (gOf D a 4) := fun i => by rw [v3]; exact ⟨rfl, rfl, rfl⟩
  have hx : (gOf D a 4).x0 = x0 ∧ (gOf D a 4).x1 = x1 ∧ (gOf D a 4).x2 = x2 ∧ (gOf D a 4).x3 = x3 := by rw [v3]; exact ⟨rfl, rfl, rfl, rfl⟩
  have hge : (gOf D a 4).e = E := by rw [v3]; exact v4
  rw [show makeV D a 4 = _ from if_neg (own_ne (u := 0) (by decide) (hown 0))] at hS
  generalize gOf D a 4 = g at hS hgeo hx hge
  have hdk : dk D a g 4 = ⟨3, 2, 1, 0⟩ := by
    show dkS D a g (dkS D a g (dkS D a g (dkS D a g (⟨-1, -1, -1, -1⟩) 0) 1) 2) 3 = _
    rw [show dkS D a g (⟨-1, -1, -1, -1⟩ : D4) 0 = ⟨-1, -1, -1, 0⟩ from dkS_new (hown 0) (hgeo 0) (show (-1 : Int) < 0 by decide)]
    rw [show dkS D a g (⟨-1, -1, -1, 0⟩ : D4) 1 = ⟨-1, -1, 1, 0⟩ from dkS_new (hown 1) (hgeo 1) (show (-1 : Int) < 0 by decide)]
    rw [show dkS D a g (⟨-1, -1, 1, 0⟩ : D4) 2 = ⟨-1, 2, 1, 0⟩ from dkS_new (hown 2) (hgeo 2) (show (-1 : Int) < 0 by decide)]
    rw [show dkS D a g (⟨-1, 2, 1, 0⟩ : D4) 3 = ⟨3, 2, 1, 0⟩ from dkS_new (hown 3) (hgeo 3) (show (-1 : Int) < 0 by decide)]
  rw [hdk] at hS
  have q0 : inB D g (⟨3, 2, 1, 0⟩ : D4) 0 g.x0 = inB D g ⟨3, 2, 1, 0⟩ 0 x0 := by rw [hx.1]
  have q1 : inB D g (⟨3, 2, 1, 0⟩ : D4) 1 g.x1 = inB D g ⟨3, 2, 1, 0⟩ 1 x1 := by rw [hx.2.1]
  have q2 : inB D g (⟨3, 2, 1, 0⟩ : D4) 2 g.x2 = inB D g ⟨3, 2, 1, 0⟩ 2 x2 := by rw [hx.2.2.1]
  have q3 : inB D g (⟨3, 2, 1, 0⟩ : D4) 3 g.x3 = inB D g ⟨3, 2, 1, 0⟩ 3 x3 := by rw [hx.2.2.2]
  rw [q0, q1, q2, q3, madeA, hge] at hS
  refine ⟨g, _, _, _, _, hS, fin_a ⟨y0, y1⟩ (show (3 : Int) ≥ 0 by decide) (by rw [hge]; show E - 1 ≤ E0; omega), fun hz => fin_a ⟨y2, y3⟩ (show (2 : Int) ≥ 0 by decide) (by rw [hge]; show E - 1 ≤ E - ((z1 % 3 : Nat) : Int); omega), fun hz => fin_b (by rw [hge]; show ¬ E - 1 ≤ E - ((z1 % 3 : Nat) : Int); omega), fun hz => fin_a (by omega) (show (1 : Int) ≥ 0 by decide) (by rw [hge]; show E - 1 ≤ E - ((z2 % 3 : Nat) : Int); omega), fun hz => fin_b (by rw [hge]; show ¬ E - 1 ≤ E - ((z2 % 3 : Nat) : Int); omega), fun hz => fin_a (by omega) (show (0 : Int) ≥ 0 by decide) (by rw [hge]; show E - 1 ≤ E - ((z3 % 3 : Nat) : Int); omega), fun hz => fin_b (by rw [hge]; show ¬ E - 1 ≤ E - ((z3 % 3 : Nat) : Int); omega)⟩
theorem in_walk (Y : Ys Prop) (a m l n r e p x0 x1 x2 x3 c : Int) (z0 z1 z2 z3 : Nat) (hz0 : z0 < 256) (hz1 : z1 < 256) (hz2 : z2 < 256) (hz3 : z3 < 256) (K : V → Mem → Prop) (hK : ∀ mm, K (.bool true) mm) :
    body1 pA (callD pA tb0 la11 5) Y c8 [sup a m l n r e p x0 x1 x2 x3 c, .agg [.int .u8 ((z0 : Nat) : Int), .int .u8 ((z1 : Nat) : Int), .int .u8 ((z2 : Nat) : Int), .int .u8 ((z3 : Nat) : Int)]] ⟨0, .leaf⟩ K := by
  rw [c8_eq]
  generalize hA : [sup a m l n r e p x0 x1 x2 x3 c, .agg [.int .u8 ((z0 : Nat) : Int), .int .u8 ((z1 : Nat) : Int), .int .u8 ((z2 : Nat) : Int), .int .u8 ((z3 : Nat) : Int)]] = A
  have hT : allS (fillS 0 A slots0) [(s0, sup a m l n r e p x0 x1 x2 x3 c), (s1, .agg [.int .u8 ((z0 : Nat) : Int), .int .u8 ((z1 : Nat) : Int), .int .u8 ((z2 : Nat) : Int), .int .u8 ((z3 : Nat) : Int)])] := by subst hA; exact ⟨rfl, rfl, trivial⟩
  have hn : Nat.ble A.length 123 = true := by subst hA; rfl
  clear hA
  have key : ∀ E : Int, 3 ≤ E → E ≤ 1073741824 → (∀ K' : Ex → Slots → Mem → Prop, (∀ T', allS T' [(s2, .ptr 0 0), (s3, .ptr 1 0)] → K' .normal T' (memL 2 [(0, .cells (cel a m l n r E p x0 x1 x2 x3 c) false), (1, .cells [.int .u8 ((z0 : Nat) : Int), .int .u8 ((z1 : Nat) : Int), .int .u8 ((z2 : Nat) : Int), .int .u8 ((z3 : Nat) : Int)] false)])) → code pA (callD pA tb0 la11 5) Y (.seq c8A c8B) (fillS 0 A slots0) ⟨0, .leaf⟩ K') →
      body1 pA (callD pA tb0 la11 5) Y ⟨123, [.tmp s4], .seq c8A (.seq c8B c8R)⟩ A ⟨0, .leaf⟩ K := by
    intro E b1 b2 h1
    cases g : rightS a 0 l n r E p x0 x1 x2 x3 c with
    | false => exact body_two hn h1 (fun T hT K hK => in_no Y a m l n r E p x0 x1 x2 x3 c z0 z1 z2 z3 b1 b2 g T hT K hK) hK
    | true =>
      rcases (right_n g).1 with rfl | rfl | rfl
      · obtain ⟨gg, f0, f1, f2, f3, hS, hf0, ha1, hb1⟩ := in_made2 (z1 := z1) (z2 := z2) (z3 := z3) (E0 := (E - 0)) g b1 b2 (by omega)
        exact body_two hn h1 (fun T hT K hK => in_2 Y a l r E p x0 x1 x2 x3 c m z0 z1 z2 z3 hz0 hz1 hz2 hz3 b1 b2 g (fun M F h0 h1 h2 h3 => errS_y (right_m g h0 h1 h2 h3)) gg.a gg.m gg.l gg.n gg.r gg.p gg.x0 gg.x1 gg.x2 gg.x3 gg.c f0 f1 f2 f3 hS hf0 ha1 hb1 T hT K hK) hK
      · obtain ⟨gg, f0, f1, f2, f3, hS, hf0, ha1, hb1, ha2, hb2⟩ := in_made3 (z1 := z1) (z2 := z2) (z3 := z3) (E0 := (E - 0)) g b1 b2 (by omega)
        exact body_two hn h1 (fun T hT K hK => in_3 Y a l r E p x0 x1 x2 x3 c m z0 z1 z2 z3 hz0 hz1 hz2 hz3 b1 b2 g (fun M F h0 h1 h2 h3 => errS_y (right_m g h0 h1 h2 h3)) gg.a gg.m gg.l gg.n gg.r gg.p gg.x0 gg.x1 gg.x2 gg.x3 gg.c f0 f1 f2 f3 hS hf0 ha1 hb1 ha2 hb2 T hT K hK) hK
      · obtain ⟨gg, f0, f1, f2, f3, hS, hf0, ha1, hb1, ha2, hb2, ha3, hb3⟩ := in_made4 (z1 := z1) (z2 := z2) (z3 := z3) (E0 := (E - 0)) g b1 b2 (by omega)
        exact body_two hn h1 (fun T hT K hK => in_4 Y a l r E p x0 x1 x2 x3 c m z0 z1 z2 z3 hz0 hz1 hz2 hz3 b1 b2 g (fun M F h0 h1 h2 h3 => errS_y (right_m g h0 h1 h2 h3)) gg.a gg.m gg.l gg.n gg.r gg.p gg.x0 gg.x1 gg.x2 gg.x3 gg.c f0 f1 f2 f3 hS hf0 ha1 hb1 ha2 hb2 ha3 hb3 T hT K hK) hK
  by_cases b1 : e < 3
  · exact key 3 (by decide) (by decide) fun K' hK' => in_l Y a m l n r e p x0 x1 x2 x3 c z0 z1 z2 z3 b1 _ hT K' hK'
  · by_cases b2 : 1073741824 < e
    · exact key 3 (by decide) (by decide) fun K' hK' => in_h Y a m l n r e p x0 x1 x2 x3 c z0 z1 z2 z3 b2 _ hT K' hK'
    · exact key e (by omega) (by omega) fun K' hK' => in_e Y a m l n r e p x0 x1 x2 x3 c z0 z1 z2 z3 (by omega) (by omega) _ hT K' hK'
end Go.Proofs.Ythmbmcpjakbepaa
