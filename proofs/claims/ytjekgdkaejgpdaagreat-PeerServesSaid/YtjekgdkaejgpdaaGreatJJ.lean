/- The law's memory. No condition. -/
import Derived.Test.YtjekgdkaejgpdaaGreatIK
namespace Go.Proofs.YtjekgdkaejgpdaaGreat
open Go Go.AM
set_option maxRecDepth 100000
set_option maxHeartbeats 4000000
set_option linter.unusedVariables false
set_option linter.unusedSectionVars false
theorem cal_Fn {n : Nat} {S : List V → Option V} {last : CF Prop} {args : List V} {m : Mem} {v : V} (hv : S args = some v) : zAw (zAi n S last) (.func (.func n) [] []) args m v m := by
 intro K hK
 unfold zAi
 simp only [Nat.beq_refl, cond_true, hv]
 exact hK
theorem cal_W {n : Nat} {last : CF Prop} {m : Mem} : zAw (zC8 n last) (.func (.func n) [] []) [] m (.bool true) m := fun K hK => w_lastW hK
theorem zBu {n g : Nat} {last : CF Prop} {args : List V} {m m1 : Mem} {v : V} (hg : Nat.beq g n = false) (h : zAw last (.func (.func g) [] []) args m v m1) : zAw (zC8 n last) (.func (.func g) [] []) args m v m1 := by
 intro K hK
 cases args with
 | nil =>
  unfold zC8
  simp only [hg, cond_false]
  exact h K hK
 | cons a l => exact h K hK
theorem cal_Join {n : Nat} {last : CF Prop} {m : Mem} {b o len c : Nat} {t : List Nat} (h : joinM m b o len = some t) : zAw (zDW n last) (.func (.func n) [] []) [.slice b o len c 1, .str []] m (.str t) m := by
 intro K hK
 unfold zDW
 simp only [Nat.beq_refl, Bool.and_self, cond_true, joinS_eq, h]
 exact hK
abbrev LAw (P : Program) : CF Prop := zC8 4 (zAH 7 (zAq P 7) (zAH 8 (zAq P 8) (zAH 9 (zAq P 9) (zAi 12 rqS (zAH 13 (zAq P 13) (zAH 15 (zAq P 15) (zAH 16 (zAq P 16) (zAi 17 rgS (zAH 18 (zAq P 18) (zAH 19 (zAq P 19) (zAH 20 (zAq P 20) (zAH 21 (zAq P 21) (zDW 14 la0)))))))))))))
theorem mono_join {n : Nat} {last : CF Prop} (h : zBi last) : zBi (zDW n last) := by
 intro f args m K K' hK hh
 unfold zDW at hh ⊢
 split at hh
 ·split at hh
  ·exact hK _ _ hh
  ·exact h _ _ _ _ _ hK hh
 ·exact h _ _ _ _ _ hK hh
theorem zBb (P : Program) : zBi (LAw P) := mono_w (zBo (zBo (zBo (zAb (zBo (zBo (zBo (zAb (zBo (zBo (zBo (zBo (mono_join zAc)))))))))))))
abbrev fn (n : Nat) : V := .func (.func n) [] []
section
variable {P : Program} {args : List V} {m m1 : Mem} {v : V}
theorem up7 {X : CF Prop} (h : zAw X (fn 7) args m v m1) : zAw (zC8 4 (X)) (fn 7) args m v m1 := zBu rfl (h)
theorem up8 {X : CF Prop} (h : zAw X (fn 8) args m v m1) : zAw (zC8 4 (zAH 7 (zAq P 7) (X))) (fn 8) args m v m1 := zBu rfl (zAj rfl (h))
theorem up9 {X : CF Prop} (h : zAw X (fn 9) args m v m1) : zAw (zC8 4 (zAH 7 (zAq P 7) (zAH 8 (zAq P 8) (X)))) (fn 9) args m v m1 := zBu rfl (zAj rfl (zAj rfl (h)))
theorem up12 {X : CF Prop} (h : zAw X (fn 12) args m v m1) : zAw (zC8 4 (zAH 7 (zAq P 7) (zAH 8 (zAq P 8) (zAH 9 (zAq P 9) (X))))) (fn 12) args m v m1 := zBu rfl (zAj rfl (zAj rfl (zAj rfl (h))))
theorem up13 {X : CF Prop} (h : zAw X (fn 13) args m v m1) : zAw (zC8 4 (zAH 7 (zAq P 7) (zAH 8 (zAq P 8) (zAH 9 (zAq P 9) (zAi 12 rqS (X)))))) (fn 13) args m v m1 := zBu rfl (zAj rfl (zAj rfl (zAj rfl (zBd rfl (h)))))
theorem up15 {X : CF Prop} (h : zAw X (fn 15) args m v m1) : zAw (zC8 4 (zAH 7 (zAq P 7) (zAH 8 (zAq P 8) (zAH 9 (zAq P 9) (zAi 12 rqS (zAH 13 (zAq P 13) (X))))))) (fn 15) args m v m1 := zBu rfl (zAj rfl (zAj rfl (zAj rfl (zBd rfl (zAj rfl (h))))))
theorem up16 {X : CF Prop} (h : zAw X (fn 16) args m v m1) : zAw (zC8 4 (zAH 7 (zAq P 7) (zAH 8 (zAq P 8) (zAH 9 (zAq P 9) (zAi 12 rqS (zAH 13 (zAq P 13) (zAH 15 (zAq P 15) (X)))))))) (fn 16) args m v m1 := zBu rfl (zAj rfl (zAj rfl (zAj rfl (zBd rfl (zAj rfl (zAj rfl (h)))))))
theorem up17 {X : CF Prop} (h : zAw X (fn 17) args m v m1) : zAw (zC8 4 (zAH 7 (zAq P 7) (zAH 8 (zAq P 8) (zAH 9 (zAq P 9) (zAi 12 rqS (zAH 13 (zAq P 13) (zAH 15 (zAq P 15) (zAH 16 (zAq P 16) (X))))))))) (fn 17) args m v m1 := zBu rfl (zAj rfl (zAj rfl (zAj rfl (zBd rfl (zAj rfl (zAj rfl (zAj rfl (h))))))))
theorem up18 {X : CF Prop} (h : zAw X (fn 18) args m v m1) : zAw (zC8 4 (zAH 7 (zAq P 7) (zAH 8 (zAq P 8) (zAH 9 (zAq P 9) (zAi 12 rqS (zAH 13 (zAq P 13) (zAH 15 (zAq P 15) (zAH 16 (zAq P 16) (zAi 17 rgS (X)))))))))) (fn 18) args m v m1 := zBu rfl (zAj rfl (zAj rfl (zAj rfl (zBd rfl (zAj rfl (zAj rfl (zAj rfl (zBd rfl (h)))))))))
theorem up19 {X : CF Prop} (h : zAw X (fn 19) args m v m1) : zAw (zC8 4 (zAH 7 (zAq P 7) (zAH 8 (zAq P 8) (zAH 9 (zAq P 9) (zAi 12 rqS (zAH 13 (zAq P 13) (zAH 15 (zAq P 15) (zAH 16 (zAq P 16) (zAi 17 rgS (zAH 18 (zAq P 18) (X))))))))))) (fn 19) args m v m1 := zBu rfl (zAj rfl (zAj rfl (zAj rfl (zBd rfl (zAj rfl (zAj rfl (zAj rfl (zBd rfl (zAj rfl (h))))))))))
theorem up20 {X : CF Prop} (h : zAw X (fn 20) args m v m1) : zAw (zC8 4 (zAH 7 (zAq P 7) (zAH 8 (zAq P 8) (zAH 9 (zAq P 9) (zAi 12 rqS (zAH 13 (zAq P 13) (zAH 15 (zAq P 15) (zAH 16 (zAq P 16) (zAi 17 rgS (zAH 18 (zAq P 18) (zAH 19 (zAq P 19) (X)))))))))))) (fn 20) args m v m1 := zBu rfl (zAj rfl (zAj rfl (zAj rfl (zBd rfl (zAj rfl (zAj rfl (zAj rfl (zBd rfl (zAj rfl (zAj rfl (h)))))))))))
theorem up21 {X : CF Prop} (h : zAw X (fn 21) args m v m1) : zAw (zC8 4 (zAH 7 (zAq P 7) (zAH 8 (zAq P 8) (zAH 9 (zAq P 9) (zAi 12 rqS (zAH 13 (zAq P 13) (zAH 15 (zAq P 15) (zAH 16 (zAq P 16) (zAi 17 rgS (zAH 18 (zAq P 18) (zAH 19 (zAq P 19) (zAH 20 (zAq P 20) (X))))))))))))) (fn 21) args m v m1 := zBu rfl (zAj rfl (zAj rfl (zAj rfl (zBd rfl (zAj rfl (zAj rfl (zAj rfl (zBd rfl (zAj rfl (zAj rfl (zAj rfl (h))))))))))))
theorem up14 {X : CF Prop} (h : zAw X (fn 14) args m v m1) : zAw (zC8 4 (zAH 7 (zAq P 7) (zAH 8 (zAq P 8) (zAH 9 (zAq P 9) (zAi 12 rqS (zAH 13 (zAq P 13) (zAH 15 (zAq P 15) (zAH 16 (zAq P 16) (zAi 17 rgS (zAH 18 (zAq P 18) (zAH 19 (zAq P 19) (zAH 20 (zAq P 20) (zAH 21 (zAq P 21) (X)))))))))))))) (fn 14) args m v m1 := zBu rfl (zAj rfl (zAj rfl (zAj rfl (zBd rfl (zAj rfl (zAj rfl (zAj rfl (zBd rfl (zAj rfl (zAj rfl (zAj rfl (zAj rfl (h)))))))))))))
end
structure Low (o : zAe) : Prop where
 ren : ∀ σ, o = .dead ∨ o.ren σ = o
 bel : ∀ p, o.bel p = true
def LowV (v : V) : Prop := ∀ l : List Nat, l.take 2 = [0, 1] → v.back l = v
theorem Low.dead : Low .dead := ⟨fun _ => .inl rfl, fun _ => rfl⟩
theorem low_pre {o : zAe} (h : Low o) {B N b : Nat} {σ : Nat → Nat} {m : Mem} (hg : m.get (σ b) = some o) : o = .dead ∨ (o.lowIt B = true ∧ m.get (σ b) = some o) ∨ m.get (σ b) = some (o.ren σ) ∧ o.bel (fun c => Nat.blt c N) = true := by
 rcases h.ren σ with e | e
 ·exact .inl e
 ·exact .inr (.inr ⟨by rw [e]; exact hg, h.bel _⟩)
def pls : List V → Prop := fun l => (∀ σ, zDr σ l = l) ∧ ∀ p, zF2 p l = true
theorem zB2 {l : List V} {ro : Bool} (h : pls l) : Low (.cells l ro) := ⟨fun σ => .inr (by show zAe.cells (zDr σ l) ro = _; rw [h.1]), fun p => h.2 p⟩
theorem zHj : pls [] := ⟨fun _ => rfl, fun _ => rfl⟩
theorem zHk : ∀ {a b : List V}, pls a → pls b → pls (a ++ b)
 | [], b, _, h => h
 | v :: a, b, h, h2 => by
  have ha : (∀ σ, v.ren σ = v ∧ zDr σ a = a) ∧ ∀ p, v.bel p = true ∧ zF2 p a = true := by
   refine ⟨fun σ => ?_, fun p => ?_⟩
   ·have := h.1 σ; simp only [zDr] at this; injection this with e1 e2; exact ⟨e1, e2⟩
   ·have := h.2 p; simp only [zF2, Bool.and_eq_true] at this; exact this
  have := zHk (a := a) (b := b) ⟨fun σ => (ha.1 σ).2, fun p => (ha.2 p).2⟩ h2
  refine ⟨fun σ => ?_, fun p => ?_⟩
  ·simp only [List.cons_append, zDr, (ha.1 σ).1, this.1 σ]
  ·simp only [List.cons_append, zF2, (ha.2 p).1, this.2 p, Bool.and_self]
theorem zAZ : ∀ L : List It, pls (zAo L)
 | [] => zHj
 | x :: L => zHk (a := zGH x.tg x.n) ⟨fun _ => rfl, fun _ => rfl⟩ (zAZ L)
theorem zHi : ∀ l : List zEq, pls (repL l)
 | [] => zHj
 | (e, k, d) :: l => zHk (a := [.int .u32 ((e : Nat) : Int), .int .u64 ((k : Nat) : Int), .str d]) ⟨fun _ => rfl, fun _ => rfl⟩ (zHi l)
theorem low_rO (r : List zEq) : Low (rO r) := by
 unfold rO
 split
 ·exact Low.dead
 ·exact zB2 (zHi _)
theorem low_dO {z : Bool} {l : List V} (h : pls l) : Low (dO z l) := by
 cases z
 ·exact zB2 h
 ·exact Low.dead
def PlE (l : EnG) : Prop := ∀ x ∈ l, (∀ σ, x.2.1.ren σ = x.2.1) ∧ ∀ p, x.2.1.bel p = true
theorem low_map {kd : IntKind} {l : EnG} {c : Nat} (h : PlE l) : Low (.map (enG kd l) c false) := by
 refine ⟨fun σ => .inr ?_, fun p => enG_bel fun x hx => (h x hx).2 p⟩
 show zAe.map (zCT σ _) c false = _
 rw [enG_ren]
 congr 2
 refine (List.map_congr_left (g := id) fun x hx => ?_).trans (List.map_id _)
 rw [(h x hx).1]; rfl
theorem plE_fm (L : List It) : PlE (fmL L) := fun x hx => by
 obtain ⟨y, _, rfl⟩ := List.mem_map.1 hx
 exact ⟨fun _ => rfl, fun _ => rfl⟩
def oL (L : List It) : EnG := L.map fun x => (x.ck, rqV x.n, x.ck - 1)
theorem plE_o (L : List It) : PlE (oL L) := fun x hx => by
 obtain ⟨y, _, rfl⟩ := List.mem_map.1 hx
 exact ⟨fun _ => rfl, fun _ => rfl⟩
def fL (f : Nat → Nat) (L : List It) : EnG := L.map fun x => (x.ck, .ptr (f x.p) 0, x.ck - 1)
theorem fL_ren (σ : Nat → Nat) (f : Nat → Nat) (L : List It) : zCT σ (enG .u64 (fL f L)) = enG .u64 (fL (fun p => σ (f p)) L) := by
 rw [enG_ren]
 congr 1
 unfold fL
 rw [List.map_map]
 rfl
theorem fL_bel {b : Nat → Bool} {f : Nat → Nat} {L : List It} (h : ∀ x ∈ L, b (f x.p) = true) : zDJ b (enG .u64 (fL f L)) = true := enG_bel fun x hx => by
 obtain ⟨y, hy, rfl⟩ := List.mem_map.1 hx
 exact h y hy
theorem zGX {f g : Nat → Nat} {L : List It} (h : ∀ x ∈ L, f x.p = g x.p) : fL f L = fL g L := List.map_congr_left fun x hx => by rw [h x hx]
structure Gs where
 LF : List It
 LS : List It
 LO : List It
 A : Nat → zAe
 D : Nat → List Nat
 q : Nat
 qo : Nat
 l : Nat
 z : Bool
 c : Nat
 OX : List V
 ou : List Nat
 rp : List zEq
 R : zAe
 al : EnG
 ca : Nat
 tl : List (List Nat)
def tV (b : Nat) : List (List Nat) → V
 | [] => .nilslice
 | _ :: l => .slice b 0 (l.length + 1) (l.length + 1) 1
def tO : List (List Nat) → zAe
 | [] => .dead
 | t :: l => .cells ((t :: l).map .str) false
theorem tV_snoc (b : Nat) (tl : List (List Nat)) (t : List Nat) : tV b (tl ++ [t]) = .slice b 0 (tl.length + 1) (tl.length + 1) 1 := by
 cases tl with
 | nil => rfl
 | cons x l => show V.slice b 0 ((l ++ [t]).length + 1) ((l ++ [t]).length + 1) 1 = _; rw [List.length_append]; rfl
theorem tO_snoc (tl : List (List Nat)) (t : List Nat) : tO (tl ++ [t]) = .cells ((tl ++ [t]).map .str) false := by cases tl <;> rfl
theorem pls_str : ∀ l : List (List Nat), pls (l.map .str)
 | [] => zHj
 | x :: l => zHk (a := [.str x]) ⟨fun _ => rfl, fun _ => rfl⟩ (pls_str l)
theorem low_tO (l : List (List Nat)) : Low (tO l) := by
 unfold tO
 split
 ·exact Low.dead
 ·exact zB2 (pls_str _)
abbrev cB (st : Bool) (ou : List Nat) (q mb : Nat) (rv : V) : zAe := .cells [.str [97], .bool st, .bool st, .bool true, .bool true, .bool false, .bool false, .int .u64 1024, .str [], .str ou, .map mb, .int .u64 ((q : Nat) : Int), rv] false
section
variable (oa oo : zAe) (st : Bool) (g : Gs)
abbrev gC : zAe := cB st g.ou g.q 3 (rvO 20 g.rp)
abbrev gF : zAe := .map (enG .u64 (fL (fun p => 4 + p) g.LF)) g.q false
abbrev gX : zAe := .cells (xL g.D (.ptr 13 0) (hvV g.z g.LS.length 16)) false
abbrev gS : zAe := zA4 st g.l (ovV g.z g.c 15) 14 [] false
abbrev gFM : zAe := .map (enG .i64 (fmL g.LS)) g.l false
abbrev gO : zAe := .map (enG .u64 (oL g.LO)) g.qo false
abbrev gAL : zAe := .map (enG .u64 g.al) g.ca false
abbrev gL : List zAe := [oa, oo, gC st g, gF g, g.A 0, g.A 1, g.A 2, g.A 3, g.A 4, g.A 5, g.A 6, g.A 7, gX g, gS st g, gFM g, dO g.z g.OX, dO g.z (zAo g.LS), gO g, gAL g, tO g.tl, g.R]
abbrev gM : Mem := (y21 oa oo (gC st g) (gF g) (g.A 0) (g.A 1) (g.A 2) (g.A 3) (g.A 4) (g.A 5) (g.A 6) (g.A 7) (gX g) (gS st g) (gFM g) (dO g.z g.OX) (dO g.z (zAo g.LS)) (gO g) (gAL g) (tO g.tl) (g.R))
abbrev gB (bx : zAe) : Mem := (y22 oa oo (gC st g) (gF g) (g.A 0) (g.A 1) (g.A 2) (g.A 3) (g.A 4) (g.A 5) (g.A 6) (g.A 7) (gX g) (gS st g) (gFM g) (dO g.z g.OX) (dO g.z (zAo g.LS)) (gO g) (gAL g) (tO g.tl) (g.R) bx)
end
structure LowG (oa oo : zAe) (g : Gs) : Prop where
 oa : Low oa
 oo : Low oo
 A : ∀ j, Low (g.A j)
 OX : pls g.OX
 al : PlE g.al
 R : Low g.R
 F : ∀ x ∈ g.LF, x.p < 8
structure Fits (oa oo : zAe) (st : Bool) (g : Gs) (m : Mem) (f : Nat → Nat) : Prop where
 g0 : m.get (f 0) = some oa
 g1 : m.get (f 1) = some oo
 g2 : m.get (f 2) = some (cB st g.ou g.q (f 3) (rvO (f 20) g.rp))
 g3 : m.get (f 3) = some (.map (enG .u64 (fL (fun p => f (4 + p)) g.LF)) g.q false)
 gA : ∀ j, j < 8 → m.get (f (4 + j)) = some (g.A j) ∨ g.A j = .dead
 g12 : m.get (f 12) = some (.cells (xL g.D (.ptr (f 13) 0) (hvV g.z g.LS.length (f 16))) false)
 g13 : m.get (f 13) = some (zA4 st g.l (ovV g.z g.c (f 15)) (f 14) [] false)
 g14 : m.get (f 14) = some (gFM g)
 g15 : m.get (f 15) = some (dO g.z g.OX)
 g16 : m.get (f 16) = some (dO g.z (zAo g.LS))
 g17 : m.get (f 17) = some (gO g)
 g18 : m.get (f 18) = some (gAL g)
 g19 : m.get (f 19) = some (tO g.tl)
 g20 : m.get (f 20) = some g.R ∨ g.R = .dead
section
variable {oa oo : zAe} {st : Bool} {g : Gs} {m : Mem}
theorem zDO (σ : Nat → Nat) (b : Nat) (r : List zEq) : (rvO b r).ren σ = rvO (σ b) r := by
 unfold rvO; split <;> rfl
theorem zDX (σ : Nat → Nat) (z : Bool) (n b : Nat) : (hvV z n b).ren σ = hvV z n (σ b) := by cases z <;> rfl
theorem zDS (σ : Nat → Nat) (z : Bool) (n b : Nat) : (ovV z n b).ren σ = ovV z n (σ b) := by cases z <;> rfl
theorem xL_ren (σ : Nat → Nat) (D : Nat → List Nat) (s h : V) : zDr σ (xL D s h) = xL D (s.ren σ) (h.ren σ) := by
 simp only [xL, zDr, V.ren]
theorem zDP {p : Nat → Bool} {b : Nat} {r : List zEq} (h : p b = true) : (rvO b r).bel p = true := by
 unfold rvO; split
 ·rfl
 ·exact h
theorem zDY {p : Nat → Bool} {z : Bool} {n b : Nat} (h : p b = true) : (hvV z n b).bel p = true := by
 cases z
 ·exact h
 ·rfl
theorem zDT {p : Nat → Bool} {z : Bool} {n b : Nat} (h : p b = true) : (ovV z n b).bel p = true := by
 cases z
 ·exact h
 ·rfl
theorem zEd {p : Nat → Bool} {D : Nat → List Nat} {s h : V} (h1 : s.bel p = true) (h2 : h.bel p = true) : zF2 p (xL D s h) = true := by
 simp only [xL, zF2, V.bel, h1, h2, Bool.and_self]
abbrev PreO (N : Nat) (σ : Nat → Nat) (m : Mem) (i : Nat) (o : zAe) : Prop := o = .dead ∨ (o.lowIt 2 = true ∧ m.get (σ i) = some o) ∨ m.get (σ i) = some (o.ren σ) ∧ o.bel (fun c => Nat.blt c N) = true
theorem zDR {N i : Nat} {σ : Nat → Nat} {o : zAe} (h : Low o) (hg : m.get (σ i) = some o) : PreO N σ m i o := low_pre h hg
theorem zCQ {N i : Nat} {σ : Nat → Nat} {o : zAe} (h : Low o) (hg : m.get (σ i) = some o ∨ o = .dead) : PreO N σ m i o := by
 rcases hg with hg | hg
 ·exact low_pre h hg
 ·exact .inl hg
theorem zH0 {a N : Nat} (h : a < N) : Nat.blt a N = true := zAV.2 h
theorem pres_g {N : Nat} {σ : Nat → Nat} (hN : 21 ≤ N) (hl : LowG oa oo g) (hf : Fits oa oo st g m σ) {ex : List zAe} (hex : preOkD 2 N σ m 21 ex) : preOkD 2 N σ m 0 (gL oa oo st g ++ ex) := by
 have b20 := zH0 (show 20 < N by omega)
 refine ⟨zDR hl.oa hf.g0, zDR hl.oo hf.g1, .inr (.inr ⟨?_, ?_⟩), .inr (.inr ⟨?_, ?_⟩), zCQ (hl.A 0) (hf.gA 0 (by decide)), zCQ (hl.A 1) (hf.gA 1 (by decide)), zCQ (hl.A 2) (hf.gA 2 (by decide)), zCQ (hl.A 3) (hf.gA 3 (by decide)), zCQ (hl.A 4) (hf.gA 4 (by decide)), zCQ (hl.A 5) (hf.gA 5 (by decide)), zCQ (hl.A 6) (hf.gA 6 (by decide)), zCQ (hl.A 7) (hf.gA 7 (by decide)), .inr (.inr ⟨?_, ?_⟩), .inr (.inr ⟨?_, ?_⟩), zDR (low_map (plE_fm _)) hf.g14, zDR (low_dO hl.OX) hf.g15, zDR (low_dO (zAZ _)) hf.g16, zDR (low_map (plE_o _)) hf.g17, zDR (low_map hl.al) hf.g18, zDR (low_tO _) hf.g19, zCQ hl.R hf.g20, hex⟩
 ·rw [hf.g2]
  show some (cB st g.ou g.q (σ 3) (rvO (σ 20) g.rp)) = some (cB st g.ou g.q (σ 3) ((rvO 20 g.rp).ren σ))
  rw [zDO]
 ·show (Nat.blt 3 N && ((rvO 20 g.rp).bel _ && true)) = true
  rw [zH0 (show 3 < N by omega), show (rvO 20 g.rp).bel (fun c => Nat.blt c N) = true from zDP b20]; rfl
 ·rw [hf.g3]
  show _ = some (zAe.map (zCT σ _) g.q false)
  rw [fL_ren]
 ·exact fL_bel fun x hx => zH0 (by have := hl.F x hx; omega)
 ·rw [hf.g12]
  show _ = some (zAe.cells (zDr σ _) false)
  rw [xL_ren, zDX]; rfl
 ·exact zEd (zH0 (show 13 < N by omega)) (zDY (zH0 (show 16 < N by omega)))
 ·rw [hf.g13]
  show _ = some (zA4 st g.l ((ovV g.z g.c 15).ren σ) (σ 14) [] false)
  rw [zDS]
 ·show ((ovV g.z g.c 15).bel _ && (Nat.blt 14 N && true)) = true
  rw [show (ovV g.z g.c 15).bel (fun c => Nat.blt c N) = true from zDT (zH0 (show 15 < N by omega)), zH0 (show 14 < N by omega)]; rfl
theorem zIV {q : List Nat} (hB : q.take 2 = List.range 2) (hq : (zDj q && Nat.beq q.length 21) = true) (hl : LowG oa oo g) (hf : Fits oa oo st g m (zAJ q)) : RenM 2 q m (gM oa oo st g) := by
 have hq2 := hq
 simp only [Bool.and_eq_true] at hq2
 have e := Nat.eq_of_beq_eq_true hq2.2
 have e21 : (gL oa oo st g ++ []).length = 21 := rfl
 exact renM_of (B := 2) (l := q) (m := m) (objs := gL oa oo st g ++ []) hB (by omega) (by rw [e21]; exact hq) (by rw [e21]; exact pres_g (by decide) hl hf trivial)
theorem ren_b {q : List Nat} {bx : zAe} (hB : q.take 2 = List.range 2) (hq : (zDj q && Nat.beq q.length 22) = true) (hl : LowG oa oo g) (hf : Fits oa oo st g m (zAJ q)) (hx : Low bx) (hxg : m.get (zAJ q 21) = some bx) : RenM 2 q m (gB oa oo st g bx) := by
 have hq2 := hq
 simp only [Bool.and_eq_true] at hq2
 have e := Nat.eq_of_beq_eq_true hq2.2
 have e22 : (gL oa oo st g ++ [bx]).length = 22 := rfl
 exact renM_of (B := 2) (l := q) (m := m) (objs := gL oa oo st g ++ [bx]) hB (by omega) (by rw [e22]; exact hq) (by rw [e22]; exact pres_g (N := 22) (by decide) hl hf ⟨zDR hx hxg, trivial⟩)
end
end Go.Proofs.YtjekgdkaejgpdaaGreat
