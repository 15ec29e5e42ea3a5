/- Makes: what it answers. No condition. -/
import Derived.Test.YtjikaankdnmabaaKJ
namespace Go.Proofs.Ytjikaankdnmabaa
open Go Go.AM
set_option maxRecDepth 100000
set_option maxHeartbeats 4000000
set_option linter.unusedVariables false
set_option linter.unusedSectionVars false
theorem key_inj : ∀ {L : List (Int × List Nat × Nat)}, (keysG L).Nodup → ∀ {y z}, y ∈ L → z ∈ L → y.1 = z.1 → y = z
  | [], _, _, _, h, _, _ => by cases h
  | a :: L, hn, y, z, hy, hz, e => by
    simp only [keysG, List.map_cons, List.nodup_cons, List.mem_map, not_exists, not_and] at hn
    rcases List.mem_cons.1 hy with e1 | h1
    · rcases List.mem_cons.1 hz with e2 | h2
      · rw [e1, e2]
      · subst e1; exact absurd e.symm (hn.1 z h2)
    · rcases List.mem_cons.1 hz with e2 | h2
      · subst e2; exact absurd e (hn.1 y h1)
      · exact key_inj hn.2 h1 h2 e
theorem mloop (l m r s : Int) (b0 b1 b2 b3 : Bool) (L : List (Int × List Nat × Nat)) (c : Nat) (ro : Bool) (G : List (Int × List Nat × Nat)) (c2 : Nat) (ro2 : Bool) (gv : V) (hs : Stamped (mV L) c) (hkn : (keysG L).Nodup) (hkey : ∀ y ∈ L, 0 ≤ y.1 ∧ y.1 < 4) : LoopOk3 (callD pA tb12 la12 5) c12l0 (.exit 0) (memL 6 [(0, .map (mV L) c ro), (1, .map (mV G) c2 ro2), (2, .cells [.int .i64 l, .int .i64 m, .int .i64 r] false), (3, .cells (inP b0 b1 b2 b3) false), (4, .map [] 0 false), (5, .iter (some 0) c [] c)]) [(s1, .int .i64 s), (s3, .map 0), (s4, gv), (s5, .ptr 2 0), (s7, .ptr 3 0), (s12, .nilslice), (s14, .map 4), (s38, .ptr 5 0)] (fun v => List.Perm v (mV L)) (fun v => memL 6 [(0, .map (mV L) c ro), (1, .map (mV G) c2 ro2), (2, .cells [.int .i64 l, .int .i64 m, .int .i64 r] false), (3, .cells (inP b0 b1 b2 b3) false), (4, .map (mV (outG b0 b1 b2 b3 0 v)) (List.length (outG b0 b1 b2 b3 0 v)) false), (5, .iter (some 0) c (stamps v) c)]) (fun v => [(s1, .int .i64 s), (s3, .map 0), (s4, gv), (s5, .ptr 2 0), (s7, .ptr 3 0), (s12, .nilslice), (s14, .map 4), (s38, .ptr 5 0)]) := by
  rw [c12l0_eq]
  refine rangeL hs (fun vis => memL 6 [(0, .map (mV L) c ro), (1, .map (mV G) c2 ro2), (2, .cells [.int .i64 l, .int .i64 m, .int .i64 r] false), (3, .cells (inP b0 b1 b2 b3) false), (4, .map (mV (outG b0 b1 b2 b3 0 vis)) (List.length (outG b0 b1 b2 b3 0 vis)) false), (5, (itO 0 c vis))]) (fun vis y => memL 6 [(0, .map (mV L) c ro), (1, .map (mV G) c2 ro2), (2, .cells [.int .i64 l, .int .i64 m, .int .i64 r] false), (3, .cells (inP b0 b1 b2 b3) false), (4, .map (mV (outG b0 b1 b2 b3 0 vis)) (List.length (outG b0 b1 b2 b3 0 vis)) false), (5, (itO1 0 c vis y.2.2))]) (fun _ => [(s1, .int .i64 s), (s3, .map 0), (s4, gv), (s5, .ptr 2 0), (s7, .ptr 3 0), (s12, .nilslice), (s14, .map 4), (s38, .ptr 5 0)]) (fun _ => rfl) (fun _ => rfl) (fun _ _ => rfl) (fun _ _ hT => hT.2.2.2.2.2.2.2.1) (fun _ => ⟨rfl, rfl⟩) (fun Y vis y T hvis hy hst hT K hK => ?_)
  obtain ⟨⟨k, g, t⟩, hz, rfl⟩ := mV_mem hy
  obtain ⟨k0, k4⟩ := hkey _ hz
  simp only at k0 k4 hst hK hy
  obtain ⟨n, rfl⟩ := Int.eq_ofNat_of_zero_le k0
  have n4 : n < 4 := by omega
  have hv := inP_nth b0 b1 b2 b3 n n4
  have happ := outG_app b0 b1 b2 b3 (V.int .i64 ((n : Nat) : Int), V.str g, t) vis 0
  rw [Nat.zero_add] at happ
  cases hb : inB4 b0 b1 b2 b3 ((n : Nat) : Int) with
  | false =>
    rw [hb] at hv
    rw [if_neg (show ¬ inB4 b0 b1 b2 b3 (keyI ((V.int .i64 ((n : Nat) : Int), V.str g, t) : En)) = true by show ¬ inB4 b0 b1 b2 b3 ((n : Nat) : Int) = true; rw [hb]; decide), List.append_nil] at happ
    refine ml_n Y l m r s b0 b1 b2 b3 L c ro G c2 ro2 gv (outG b0 b1 b2 b3 0 vis) _ t n (stamps vis) g n4 (entry_ok hs hy _ _) hv T hT K fun T' hT' => ?_
    have hh := hK T' hT'
    rw [happ, show itO 0 c (vis ++ [(V.int .i64 ((n : Nat) : Int), V.str g, t)]) = .iter (some 0) c (stamps vis ++ [t]) c by unfold itO; rw [stamps_app]] at hh
    exact hh
  | true =>
    rw [hb] at hv
    rw [if_pos (show inB4 b0 b1 b2 b3 (keyI ((V.int .i64 ((n : Nat) : Int), V.str g, t) : En)) = true from hb)] at happ
    have hf : findK (.one .int) (.int .i64 ((n : Nat) : Int)) (mV (outG b0 b1 b2 b3 0 vis)) = some none := find_none fun y hy2 e => by
      obtain ⟨e1, he1, he2⟩ := outG_key b0 b1 b2 b3 vis 0 y hy2
      obtain ⟨z, hz1, rfl⟩ := mV_mem (hvis.sub e1 he1)
      have hzz := key_inj hkn hz1 hz (he2.trans e)
      subst hzz
      exact hst (List.mem_map.2 ⟨_, he1, rfl⟩)
    refine ml_y Y l m r s b0 b1 b2 b3 L c ro G c2 ro2 gv (outG b0 b1 b2 b3 0 vis) (List.length (outG b0 b1 b2 b3 0 vis)) t n (stamps vis) g n4 (entry_ok hs hy _ _) hv hf (mV ((outG b0 b1 b2 b3 0 vis) ++ [(((n : Nat) : Int), g, (List.length (outG b0 b1 b2 b3 0 vis)))])) (by rw [mV_app]; rfl) T hT K fun T' hT' => ?_
    have hh := hK T' hT'
    rw [happ, show itO 0 c (vis ++ [(V.int .i64 ((n : Nat) : Int), V.str g, t)]) = .iter (some 0) c (stamps vis ++ [t]) c by unfold itO; rw [stamps_app]] at hh
    rw [show (List.length ((outG b0 b1 b2 b3 0 vis) ++ [(keyI (V.int .i64 ((n : Nat) : Int), V.str g, t), valI (V.int .i64 ((n : Nat) : Int), V.str g, t), (List.length (outG b0 b1 b2 b3 0 vis)))])) = List.length (outG b0 b1 b2 b3 0 vis) + 1 by simp] at hh
    exact hh
theorem mloopj (l m r s : Int) (b0 b1 b2 b3 : Bool) (L : List (Int × List Nat × Nat)) (c : Nat) (ro : Bool) (G : List (Int × List Nat × Nat)) (c2 : Nat) (ro2 : Bool) (gv : V) (j : Nat) (ys : List Int) (hs : Stamped (mV L) c) (hkn : (keysG L).Nodup) (hkey : ∀ y ∈ L, 0 ≤ y.1 ∧ y.1 < 4) : LoopOk3 (callD pA tb12 la12 5) c12l0 (.exit 0) (memL 7 [(0, .map (mV L) c ro), (1, .map (mV G) c2 ro2), (2, .cells [.int .i64 l, .int .i64 m, .int .i64 r] false), (3, .cells (inP b0 b1 b2 b3) false), (4, .cells (iV ys) false), (5, .map [] 0 false), (6, .iter (some 0) c [] c)]) [(s1, .int .i64 s), (s3, .map 0), (s4, gv), (s5, .ptr 2 0), (s7, .ptr 3 0), (s12, .slice 4 0 j j 1), (s14, .map 5), (s38, .ptr 6 0)] (fun v => List.Perm v (mV L)) (fun v => memL 7 [(0, .map (mV L) c ro), (1, .map (mV G) c2 ro2), (2, .cells [.int .i64 l, .int .i64 m, .int .i64 r] false), (3, .cells (inP b0 b1 b2 b3) false), (4, .cells (iV ys) false), (5, .map (mV (outG b0 b1 b2 b3 0 v)) (List.length (outG b0 b1 b2 b3 0 v)) false), (6, .iter (some 0) c (stamps v) c)]) (fun v => [(s1, .int .i64 s), (s3, .map 0), (s4, gv), (s5, .ptr 2 0), (s7, .ptr 3 0), (s12, .slice 4 0 j j 1), (s14, .map 5), (s38, .ptr 6 0)]) := by
  rw [c12l0_eq]
  refine rangeL hs (fun vis => memL 7 [(0, .map (mV L) c ro), (1, .map (mV G) c2 ro2), (2, .cells [.int .i64 l, .int .i64 m, .int .i64 r] false), (3, .cells (inP b0 b1 b2 b3) false), (4, .cells (iV ys) false), (5, .map (mV (outG b0 b1 b2 b3 0 vis)) (List.length (outG b0 b1 b2 b3 0 vis)) false), (6, (itO 0 c vis))]) (fun vis y => memL 7 [(0, .map (mV L) c ro), (1, .map (mV G) c2 ro2), (2, .cells [.int .i64 l, .int .i64 m, .int .i64 r] false), (3, .cells (inP b0 b1 b2 b3) false), (4, .cells (iV ys) false), (5, .map (mV (outG b0 b1 b2 b3 0 vis)) (List.length (outG b0 b1 b2 b3 0 vis)) false), (6, (itO1 0 c vis y.2.2))]) (fun _ => [(s1, .int .i64 s), (s3, .map 0), (s4, gv), (s5, .ptr 2 0), (s7, .ptr 3 0), (s12, .slice 4 0 j j 1), (s14, .map 5), (s38, .ptr 6 0)]) (fun _ => rfl) (fun _ => rfl) (fun _ _ => rfl) (fun _ _ hT => hT.2.2.2.2.2.2.2.1) (fun _ => ⟨rfl, rfl⟩) (fun Y vis y T hvis hy hst hT K hK => ?_)
  obtain ⟨⟨k, g, t⟩, hz, rfl⟩ := mV_mem hy
  obtain ⟨k0, k4⟩ := hkey _ hz
  simp only at k0 k4 hst hK hy
  obtain ⟨n, rfl⟩ := Int.eq_ofNat_of_zero_le k0
  have n4 : n < 4 := by omega
  have hv := inP_nth b0 b1 b2 b3 n n4
  have happ := outG_app b0 b1 b2 b3 (V.int .i64 ((n : Nat) : Int), V.str g, t) vis 0
  rw [Nat.zero_add] at happ
  cases hb : inB4 b0 b1 b2 b3 ((n : Nat) : Int) with
  | false =>
    rw [hb] at hv
    rw [if_neg (show ¬ inB4 b0 b1 b2 b3 (keyI ((V.int .i64 ((n : Nat) : Int), V.str g, t) : En)) = true by show ¬ inB4 b0 b1 b2 b3 ((n : Nat) : Int) = true; rw [hb]; decide), List.append_nil] at happ
    refine mlj_n Y l m r s b0 b1 b2 b3 L c ro G c2 ro2 gv j ys (outG b0 b1 b2 b3 0 vis) _ t n (stamps vis) g n4 (entry_ok hs hy _ _) hv T hT K fun T' hT' => ?_
    have hh := hK T' hT'
    rw [happ, show itO 0 c (vis ++ [(V.int .i64 ((n : Nat) : Int), V.str g, t)]) = .iter (some 0) c (stamps vis ++ [t]) c by unfold itO; rw [stamps_app]] at hh
    exact hh
  | true =>
    rw [hb] at hv
    rw [if_pos (show inB4 b0 b1 b2 b3 (keyI ((V.int .i64 ((n : Nat) : Int), V.str g, t) : En)) = true from hb)] at happ
    have hf : findK (.one .int) (.int .i64 ((n : Nat) : Int)) (mV (outG b0 b1 b2 b3 0 vis)) = some none := find_none fun y hy2 e => by
      obtain ⟨e1, he1, he2⟩ := outG_key b0 b1 b2 b3 vis 0 y hy2
      obtain ⟨z, hz1, rfl⟩ := mV_mem (hvis.sub e1 he1)
      have hzz := key_inj hkn hz1 hz (he2.trans e)
      subst hzz
      exact hst (List.mem_map.2 ⟨_, he1, rfl⟩)
    refine mlj_y Y l m r s b0 b1 b2 b3 L c ro G c2 ro2 gv j ys (outG b0 b1 b2 b3 0 vis) (List.length (outG b0 b1 b2 b3 0 vis)) t n (stamps vis) g n4 (entry_ok hs hy _ _) hv hf (mV ((outG b0 b1 b2 b3 0 vis) ++ [(((n : Nat) : Int), g, (List.length (outG b0 b1 b2 b3 0 vis)))])) (by rw [mV_app]; rfl) T hT K fun T' hT' => ?_
    have hh := hK T' hT'
    rw [happ, show itO 0 c (vis ++ [(V.int .i64 ((n : Nat) : Int), V.str g, t)]) = .iter (some 0) c (stamps vis ++ [t]) c by unfold itO; rw [stamps_app]] at hh
    rw [show (List.length ((outG b0 b1 b2 b3 0 vis) ++ [(keyI (V.int .i64 ((n : Nat) : Int), V.str g, t), valI (V.int .i64 ((n : Nat) : Int), V.str g, t), (List.length (outG b0 b1 b2 b3 0 vis)))])) = List.length (outG b0 b1 b2 b3 0 vis) + 1 by simp] at hh
    exact hh
def textsG (L : List (Int × List Nat × Nat)) : List (List Nat) := L.map (·.2.1)
theorem texts_mV : ∀ L : List (Int × List Nat × Nat), (mV L).map valI = textsG L
  | [] => rfl
  | (n, g, t) :: L => by have := texts_mV L; simp only [textsG] at this; simp only [mV, textsG, List.map_cons, this]; rfl
noncomputable def makeS (l m r s : Int) (b0 b1 b2 b3 : Bool) (L G : List (Int × List Nat × Nat)) : List Nat := sumG (textsG L ++ (needY l m r s b0 b1 b2 b3 L).map (lookG G))
noncomputable def makeG (l m r s : Int) (b0 b1 b2 b3 : Bool) (L G : List (Int × List Nat × Nat)) (x : EnL) : List (Int × List Nat × Nat) :=
  outG b0 b1 b2 b3 0 x ++ (if inB4 b0 b1 b2 b3 (pz l m r s) = true then [(pz l m r s, makeS l m r s b0 b1 b2 b3 L G, (outG b0 b1 b2 b3 0 x).length)] else [])
inductive S12 : Con → Prop
  | err (l m r s : Int) (b0 b1 b2 b3 : Bool) (L : List (Int × List Nat × Nat)) (c : Nat) (ro : Bool) (G : List (Int × List Nat × Nat)) (c2 : Nat) (ro2 : Bool) (gv : V) (hv : GvOk gv G) (hM : MapOk L c) (e : Int) (he : e ≠ 0) (h : needE l m r s b0 b1 b2 b3 L = e) : S12 ⟨[geo l m r, .int .i64 s, ag b0 b1 b2 b3, .map 0, gv], [.map (mV L) c ro, .map (mV G) c2 ro2], .tuple [.nilmap, .int .i64 e], [.map (mV L) c ro, .map (mV G) c2 ro2], []⟩
  | no (l m r s : Int) (b0 b1 b2 b3 : Bool) (L : List (Int × List Nat × Nat)) (c : Nat) (ro : Bool) (G : List (Int × List Nat × Nat)) (c2 : Nat) (ro2 : Bool) (gv : V) (hv : GvOk gv G) (hM : MapOk L c) (h0 : needE l m r s b0 b1 b2 b3 L = 0) (hh : hasAll G (needY l m r s b0 b1 b2 b3 L) = false) : S12 ⟨[geo l m r, .int .i64 s, ag b0 b1 b2 b3, .map 0, gv], [.map (mV L) c ro, .map (mV G) c2 ro2], .tuple [.nilmap, .int .i64 1], [.map (mV L) c ro, .map (mV G) c2 ro2], []⟩
  | errn (l m r s : Int) (b0 b1 b2 b3 : Bool) (L : List (Int × List Nat × Nat)) (c : Nat) (ro : Bool) (G : List (Int × List Nat × Nat)) (c2 : Nat) (ro2 : Bool) (gv : V) (e : Int) (he : e ≠ 0) (h : needE l m r s b0 b1 b2 b3 [] = e) : S12 ⟨[geo l m r, .int .i64 s, ag b0 b1 b2 b3, .nilmap, gv], [.map (mV L) c ro, .map (mV G) c2 ro2], .tuple [.nilmap, .int .i64 e], [.map (mV L) c ro, .map (mV G) c2 ro2], []⟩
inductive SQ12 : (EnL → Prop) → (EnL → Con) → Prop
  | mk (l m r s : Int) (b0 b1 b2 b3 : Bool) (L : List (Int × List Nat × Nat)) (c : Nat) (ro : Bool) (G : List (Int × List Nat × Nat)) (c2 : Nat) (ro2 : Bool) (gv : V) (hv : GvOk gv G) (hM : MapOk L c) (h0 : needE l m r s b0 b1 b2 b3 L = 0) (hh : hasAll G (needY l m r s b0 b1 b2 b3 L) = true) : SQ12 (fun x => x.Perm (mV L)) (fun x => ⟨[geo l m r, .int .i64 s, ag b0 b1 b2 b3, .map 0, gv], [.map (mV L) c ro, .map (mV G) c2 ro2], .tuple [.map 2, .int .i64 0], [.map (mV L) c ro, .map (mV G) c2 ro2], [(2, .map (mV (makeG l m r s b0 b1 b2 b3 L G x)) (makeG l m r s b0 b1 b2 b3 L G x).length false)]⟩)
theorem nodup_sub_len : ∀ {l k : List Int}, l.Nodup → (∀ x ∈ l, x ∈ k) → l.length ≤ k.length
  | [], _, _, _ => Nat.zero_le _
  | a :: l, k, hn, hs => by
    rw [List.nodup_cons] at hn
    have ha := hs a List.mem_cons_self
    have h1 := nodup_sub_len (k := k.erase a) hn.2 fun x hx => (List.mem_erase_of_ne (fun e => hn.1 (by rw [← e]; exact hx))).2 (hs x (List.mem_cons_of_mem _ hx))
    rw [List.length_erase_of_mem ha] at h1
    have h2 := List.length_pos_of_mem ha
    simp only [List.length_cons]
    omega
theorem dataL_nodup {m p : Int} (hm : m = 2 ∨ m = 3 ∨ m = 4) (hp : 0 ≤ p ∧ p < m) : (dataL m p).Nodup := by
  rcases hm with rfl | rfl | rfl
  · show [(p + 1 + ((0 : Nat) : Int)) % 2].Nodup
    simp
  · show [(p + 1 + ((0 : Nat) : Int)) % 3, (p + 1 + ((1 : Nat) : Int)) % 3].Nodup
    simp only [List.nodup_cons, List.mem_cons, List.not_mem_nil, or_false, not_false_eq_true, List.nodup_nil, and_true]
    omega
  · show [(p + 1 + ((0 : Nat) : Int)) % 4, (p + 1 + ((1 : Nat) : Int)) % 4, (p + 1 + ((2 : Nat) : Int)) % 4].Nodup
    simp only [List.nodup_cons, List.mem_cons, List.not_mem_nil, or_false, not_false_eq_true, List.nodup_nil, and_true]
    omega
theorem hasG_of_key {L : List (Int × List Nat × Nat)} : ∀ {x : Int}, x ∈ keysG L → hasG L x = true := by
  induction L with
  | nil => intro x h; cases h
  | cons a L ih =>
    intro x h
    simp only [keysG, List.map_cons, List.mem_cons] at h
    simp only [hasG, Bool.or_eq_true, decide_eq_true_eq]
    rcases h with h | h
    · exact .inl h
    · exact .inr (ih h)
theorem cnt_le {m p : Int} (hm : m = 2 ∨ m = 3 ∨ m = 4) (hp : 0 ≤ p ∧ p < m) {L : List (Int × List Nat × Nat)} (hg : goodW m p L) (hk : (keysG L).Nodup) : L.length + (restL L (dataL m p)).length ≤ 3 := by
  have h1 : (keysG L ++ restL L (dataL m p)).Nodup := by
    rw [List.nodup_append]
    refine ⟨hk, (dataL_nodup hm hp).filter _, fun a ha b hb e => ?_⟩
    subst e
    have := (List.mem_filter.1 hb).2
    rw [hasG_of_key ha] at this
    exact absurd this (by decide)
  have h2 := nodup_sub_len (k := dataL m p) h1 fun x hx => by
    rcases List.mem_append.1 hx with hx | hx
    · obtain ⟨y, hy, rfl⟩ := List.mem_map.1 hx
      exact (hg y hy).1
    · exact (List.mem_filter.1 hx).1
  rw [List.length_append, keysG, List.length_map, dataL_len] at h2
  omega
theorem accB_foldl : ∀ (l : List Nat) (a : Nat), accB a l = l.foldl (fun a b => (a % 256 ^^^ b % 256) % 256) a
  | [], _ => rfl
  | b :: l, a => accB_foldl l _
theorem acc_comm (a b d : Nat) : ((a % 256 ^^^ b % 256) % 256 % 256 ^^^ d % 256) % 256 = ((a % 256 ^^^ d % 256) % 256 % 256 ^^^ b % 256) % 256 := by
  have h : ∀ x y : Nat, (x % 256 ^^^ y % 256) % 256 = (x ^^^ y) % 256 := fun x y => by
    have e := Nat.xor_mod_two_pow (a := x) (b := y) (n := 8)
    rw [show (2 : Nat) ^ 8 = 256 from rfl] at e
    rw [← e, Nat.mod_mod]
  have g : ∀ x y z : Nat, ((x % 256 ^^^ y % 256) % 256 % 256 ^^^ z % 256) % 256 = (x ^^^ y ^^^ z) % 256 := fun x y z => by
    rw [h x y, Nat.mod_mod, h (x ^^^ y) z]
  rw [g, g, Nat.xor_assoc, Nat.xor_comm b d, ← Nat.xor_assoc]
theorem accB_perm {l k : List Nat} (h : l.Perm k) (a : Nat) : accB a l = accB a k := by
  rw [accB_foldl, accB_foldl]
  exact List.Perm.foldl_eq' h (fun x _ y _ z => acc_comm z x y) a
theorem sumG_perm {gs ks : List (List Nat)} (h : gs.Perm ks) : sumG gs = sumG ks := by
  unfold sumG
  refine List.map_congr_left fun i _ => ?_
  rw [accB_perm (h.map _)]
theorem plainEs_mV : ∀ L : List (Int × List Nat × Nat), plainEs (mV L) = true
  | [] => rfl
  | (n, g, t) :: L => by simp only [mV, plainEs, V.plain, plainEs_mV L, Bool.and_self]
theorem grow_tW {x : EnL} {gl : List (List Nat)} {n k : Nat} (hx : x.length = n) (hk : gl.length = k) (k1 : 1 ≤ k) (h : n + k ≤ 100) : growV 1 16 k (gl.map fun g => V.str g) 0 n n (tV x) = some (tW x gl) := by
  have e0 : Nat.beq k 0 = false := nbeqF (by omega)
  have e1 : Nat.ble (n + k) n = false := by
    cases e : Nat.ble (n + k) n with
    | false => rfl
    | true => have := nble_iff.1 e; omega
  have e2 : small (n + k) 16 = true := small_iff.2 (by omega)
  have e3 : allOne (gl.map fun g => V.str g) = true := by
    have : ∀ l : List (List Nat), allOne (l.map fun g => V.str g) = true := by
      intro l
      induction l with
      | nil => rfl
      | cons g l ih => simp only [List.map_cons, allOne, ih]; rfl
    exact this gl
  have e4 : takeN (n * 1) (dropN 0 (tV x)) = some (tV x) := by
    have := takeN_all (tV x)
    rw [show (tV x).length = n by simp [tV, hx]] at this
    rw [Nat.mul_one]; exact this
  unfold growV
  rw [e0, e1, e2, e3, e4]
  simp [tV, tW]
theorem wf10 (l m r s : Int) (b0 b1 b2 b3 : Bool) (L : List (Int × List Nat × Nat)) (c : Nat) (ro : Bool) (j : Nat) (ys : List Int) : Con.wf ⟨[geo l m r, .int .i64 s, ag b0 b1 b2 b3, .map 0], [.map (mV L) c ro], .tuple [.slice 1 0 j j 1, .int .i64 0], [.map (mV L) c ro], [(1, .cells (iV ys) false)]⟩ = true := by
  simp only [Con.wf, bels, V.bel, Con.p0, Con.p1, hasN, List.length_cons, List.length_nil, List.all_cons, List.all_nil, AObj.bel, bels_iV, bels_str, ebels_mV, AObj.live, AObj.wr, Bool.and_true, nodupN, Bool.and_self]
  rfl
theorem wf10e (l m r s : Int) (b0 b1 b2 b3 : Bool) (L : List (Int × List Nat × Nat)) (c : Nat) (ro : Bool) (e : Int) : Con.wf ⟨[geo l m r, .int .i64 s, ag b0 b1 b2 b3, .map 0], [.map (mV L) c ro], .tuple [.nilslice, .int .i64 e], [.map (mV L) c ro], []⟩ = true := by
  simp only [Con.wf, bels, V.bel, Con.p0, Con.p1, hasN, List.length_cons, List.length_nil, List.all_cons, List.all_nil, AObj.bel, bels_iV, bels_str, ebels_mV, AObj.live, AObj.wr, Bool.and_true, nodupN, Bool.and_self]
  rfl
theorem gv_ren {gv : V} {G : List (Int × List Nat × Nat)} (hv : GvOk gv G) : ∀ k : Nat, V.ren (nthD [k, 1]) gv = gv := by
  rcases hv with rfl | ⟨rfl, _⟩ <;> exact fun _ => rfl
theorem wf10n (l m r s : Int) (b0 b1 b2 b3 : Bool) (e : Int) : Con.wf ⟨[geo l m r, .int .i64 s, ag b0 b1 b2 b3, .nilmap], [], .tuple [.nilslice, .int .i64 e], [], []⟩ = true := rfl
theorem wf41 {gv : V} {G : List (Int × List Nat × Nat)} (hv : GvOk gv G) (c2 : Nat) (ro2 : Bool) (j : Nat) (ys : List Int) (b : Bool) : Con.wf ⟨[gv, .slice 0 0 j j 1], [.cells (iV ys) false, .map (mV G) c2 ro2], .bool b, [.cells (iV ys) false, .map (mV G) c2 ro2], []⟩ = true := by
  rcases hv with rfl | ⟨rfl, _⟩ <;> · simp only [Con.wf, bels, V.bel, Con.p0, Con.p1, hasN, List.length_cons, List.length_nil, List.all_cons, List.all_nil, AObj.bel, bels_iV, bels_stVm, bels_str, ebels_mV, AObj.live, AObj.wr, Bool.and_true, nodupN, Bool.and_self]
                                      rfl
theorem wf410 {gv : V} {G : List (Int × List Nat × Nat)} (hv : GvOk gv G) (c2 : Nat) (ro2 : Bool) (L : List (Int × List Nat × Nat)) (c : Nat) (ro : Bool) : Con.wf ⟨[gv, .nilslice], [.map (mV L) c ro, .map (mV G) c2 ro2], .bool true, [.map (mV L) c ro, .map (mV G) c2 ro2], []⟩ = true := by
  rcases hv with rfl | ⟨rfl, _⟩ <;> · simp only [Con.wf, bels, V.bel, Con.p0, Con.p1, hasN, List.length_cons, List.length_nil, List.all_cons, List.all_nil, AObj.bel, bels_iV, bels_stVm, bels_str, ebels_mV, AObj.live, AObj.wr, Bool.and_true, nodupN, Bool.and_self]
                                      rfl
theorem wf440 {gv : V} {G : List (Int × List Nat × Nat)} (hv : GvOk gv G) (c2 : Nat) (ro2 : Bool) (L : List (Int × List Nat × Nat)) (c : Nat) (ro : Bool) : Con.wf ⟨[gv, .nilslice], [.map (mV L) c ro, .map (mV G) c2 ro2], .nilslice, [.map (mV L) c ro, .map (mV G) c2 ro2], []⟩ = true := by
  rcases hv with rfl | ⟨rfl, _⟩ <;> · simp only [Con.wf, bels, V.bel, Con.p0, Con.p1, hasN, List.length_cons, List.length_nil, List.all_cons, List.all_nil, AObj.bel, bels_iV, bels_stVm, bels_str, ebels_mV, AObj.live, AObj.wr, Bool.and_true, nodupN, Bool.and_self]
                                      rfl
theorem wf44 {gv : V} {G : List (Int × List Nat × Nat)} (hv : GvOk gv G) (c2 : Nat) (ro2 : Bool) (j : Nat) (ys : List Int) (gl : List (List Nat)) : Con.wf ⟨[gv, .slice 0 0 j j 1], [.cells (iV ys) false, .map (mV G) c2 ro2], .slice 2 0 j j 1, [.cells (iV ys) false, .map (mV G) c2 ro2], [(2, .cells (stV gl) false)]⟩ = true := by
  rcases hv with rfl | ⟨rfl, _⟩ <;> · simp only [Con.wf, bels, V.bel, Con.p0, Con.p1, hasN, List.length_cons, List.length_nil, List.all_cons, List.all_nil, AObj.bel, bels_iV, bels_stVm, bels_str, ebels_mV, AObj.live, AObj.wr, Bool.and_true, nodupN, Bool.and_self]
                                      rfl
theorem wfQ42 (L : List (Int × List Nat × Nat)) (c : Nat) (ro : Bool) (n : Nat) (x : EnL) : Con.wf ⟨[.func (.func 60) [] [.ptr 0 0]], [.cells [.map 1] false, .map (mV L) c ro], .slice 2 0 n n 1, [.cells [.map 1] false, .map (mV L) c ro], [(2, .cells (tV x) false)]⟩ = true := by
  rw [tV_tW]; unfold tW
  simp only [Con.wf, bels, V.bel, Con.p0, Con.p1, hasN, List.length_cons, List.length_nil, List.all_cons, List.all_nil, AObj.bel, bels_iV, bels_str, ebels_mV, AObj.live, AObj.wr, Bool.and_true, nodupN, Bool.and_self]
  rfl
theorem wf28 (n : Nat) (x : EnL) (gl : List (List Nat)) (X : List Nat) : Con.wf ⟨[.slice 0 0 n n 1], [.cells (tW x gl) false], .tuple [.str X, .int .i64 0], [.cells (tW x gl) false], []⟩ = true := by
  unfold tW
  simp only [Con.wf, bels, V.bel, Con.p0, Con.p1, hasN, List.length_cons, List.length_nil, List.all_cons, List.all_nil, AObj.bel, bels_iV, bels_str, ebels_mV, AObj.live, AObj.wr, Bool.and_true, nodupN, Bool.and_self]
  rfl
end Go.Proofs.Ytjikaankdnmabaa
