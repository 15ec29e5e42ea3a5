/- Read and Of by what they answer. No condition. -/
import Derived.Test.YthmbmcpjakbepaaSR
namespace Go.Proofs.Ythmbmcpjakbepaa
open Go Go.AM
set_option maxRecDepth 100000
set_option maxHeartbeats 4000000
set_option linter.unusedVariables false
set_option linter.unusedSectionVars false
theorem nth_get {s : List Nat} {i : Nat} (h : i < s.length) : nth s i = some (s.getD i 0) := by
 rw [nth_eq, List.getElem?_eq_getElem h, List.getD_eq_getElem?_getD, List.getElem?_eq_getElem h]; rfl
theorem get_lt {s : List Nat} (hs : ∀ b ∈ s, b < 256) (i : Nat) : s.getD i 0 < 256 := by
 rw [List.getD_eq_getElem?_getD]
 cases h : s[i]? with
 | none => decide
 | some x => exact hs x (List.mem_of_getElem? h)
theorem num_lt {s : List Nat} (hs : ∀ b ∈ s, b < 256) (i : Nat) : num s i < 4294967296 := by
 have h0 := get_lt hs i; have h1 := get_lt hs (i + 1); have h2 := get_lt hs (i + 2); have h3 := get_lt hs (i + 3)
 unfold num; omega
theorem numR_y {s : List Nat} (hl : s.length = 64) (hs : ∀ b ∈ s, b < 256) (i : Nat) (hi : i ≤ 60) : numR [.str s, .int .i64 ((i : Nat) : Int)] = some (.int .i64 ((num s i : Nat) : Int)) := if_pos ⟨hl, hs, by omega, by omega⟩
theorem slc_y {s : List Nat} (hl : s.length = 64) (k : Nat) (hk : k ≤ 64) : slcStrV s 0 k = some (.str (s.take k)) := by
 unfold slcStrV
 rw [show Nat.ble 0 k = true from nble_iff.2 (Nat.zero_le _), show Nat.ble k s.length = true from nble_iff.2 (by omega)]; rfl
theorem sumR_y {s : List Nat} (h : s.length = 60) : sumR [.str s] = some (.int .u32 ((sumT s : Nat) : Int)) := by
 show (bif Nat.blt s.length 1099511627776 then _ else none) = _
 rw [show Nat.blt s.length 1099511627776 = true from nblt_iff.2 (by omega), cond_true]
theorem zread_walk (Y : Ys Prop) (s : List Nat) (hs : ∀ b ∈ s, b < 256) (K : V → Mem → Prop) (hK : ∀ mm, K (rdV s) mm) : body1 pA (callD pA tb0 (la19 numR sumR supR recR) 5) Y c19 [.str s] ⟨0, .leaf⟩ K := by
 by_cases hl : s.length = 64
 ·exact zread_o Y numR sumR supR recR s (s.take 4) (s.take 60) hl (slc_y hl 4 (by decide)) (slc_y hl 60 (by decide)) (num s 60) (sumT (s.take 60)) (num s 4) (num s 8) (num s 12) (num s 16) (num s 20) (num s 24) (num s 28) (num s 36) (num s 40) (num s 44) (num s 48) (num s 32) (num_lt hs 60) (sumT_lt _) (numR_y hl hs 60 (by decide)) (numR_y hl hs 4 (by decide)) (numR_y hl hs 8 (by decide)) (numR_y hl hs 12 (by decide)) (numR_y hl hs 16 (by decide)) (numR_y hl hs 20 (by decide)) (numR_y hl hs 24 (by decide)) (numR_y hl hs 28 (by decide)) (numR_y hl hs 36 (by decide)) (numR_y hl hs 40 (by decide)) (numR_y hl hs 44 (by decide)) (numR_y hl hs 48 (by decide)) (numR_y hl hs 32 (by decide)) (sumR_y (by rw [List.length_take, hl]; rfl)) (rigR s) rfl (recO s) rfl (rdV s)
   (fun h => rdM hl h) (fun h g => rdS hl h g) (fun h g q => zdF hl h g q) (fun h g q z => zdX hl h g q z) (fun h g q z => zdY hl h g q z) K hK
 ·exact zrd_l Y s hl K hK
theorem wf37 (X : List V) (hX : ∀ p : Nat → Bool, bels p X = true) (o l n : Nat) : Con.wf ⟨[.slice 0 o l l 1], [.cells X false], .int .u32 ((n : Nat) : Int), [.cells X false], []⟩ = true := by
 simp only [Con.wf, bels, V.bel, Con.p0, List.length_cons, List.length_nil, List.all_cons, List.all_nil, AObj.bel, hX, AObj.live, Bool.and_true, nodupN, Bool.and_self]
 rfl
theorem by64_nth (B : Nat → Nat) : ∀ i, i < 64 → nth (by64 B) i = some (.int .u8 ((B i : Nat) : Int)) := by
 intro i hi
 have h : ∀ j, j < 64 → nth ((List.range 64).map fun k => V.int .u8 ((B k : Nat) : Int)) j = some (.int .u8 ((B j : Nat) : Int)) := fun j hj => by
  rw [nth_eq, List.getElem?_map, List.getElem?_range hj]; rfl
 exact h i hi
theorem tx64_eq {s : List Nat} (hl : s.length = 64) : s = tx64 fun i => s.getD i 0 := by
 have h : s = (List.range 64).map fun i => s.getD i 0 := by
  refine List.ext_getElem? fun i => ?_
  by_cases hi : i < 64
  ·rw [List.getElem?_map, List.getElem?_range hi, List.getElem?_eq_getElem (by omega)]
   show _ = some (s.getD i 0)
   rw [List.getD_eq_getElem?_getD, List.getElem?_eq_getElem (by omega)]; rfl
  ·rw [List.getElem?_eq_none (by omega), List.getElem?_eq_none (by simp; omega)]
 exact h
theorem c37_y {s : List Nat} (hs : ∀ b ∈ s, b < 256) (o : Nat) (ho : o + 4 ≤ 64) : S37 ⟨[.slice 0 o (64 - o) (64 - o) 1], [.cells (by64 fun i => s.getD i 0) false], .int .u32 ((num s o : Nat) : Int), [.cells (by64 fun i => s.getD i 0) false], []⟩ :=
 S37.mk _ o (64 - o) _ _ _ _ (get_lt hs o) (get_lt hs (o + 1)) (get_lt hs (o + 2)) (get_lt hs (o + 3)) (by omega) (by omega) (by64_nth _ _ (by omega)) (by64_nth _ _ (by omega)) (by64_nth _ _ (by omega)) (by64_nth _ _ (by omega))
theorem sread_walk (Y : Ys Prop) (s : List Nat) (hs : ∀ b ∈ s, b < 256) (K : V → Mem → Prop) (hK : ∀ mm, K (rdV s) mm) : body1 pA (callD pA tb18 (la18 bytR sumR) 5) Y c18 [.str s] ⟨0, .leaf⟩ K := by
 by_cases hl : s.length = 64
 ·have e := tx64_eq hl
  have e4 : s.take 4 = s.getD 0 0 :: s.getD 1 0 :: s.getD 2 0 :: s.getD 3 0 :: [] := congrArg (List.take 4) e
  have e60 : s.take 60 = tx60 fun i => s.getD i 0 := congrArg (List.take 60) e
  have key := sread_o Y bytR sumR (fun i => s.getD i 0) (num s 60) (sumT (s.take 60)) (num s 4) (num s 8) (num s 12) (num s 16) (num s 20) (num s 24) (num s 28) (num s 36) (num s 40) (num s 44) (num s 48) (num s 32) (num_lt hs 60) (sumT_lt _) (num_lt hs 4) (num_lt hs 8) (num_lt hs 12) (num_lt hs 16) (num_lt hs 20) (num_lt hs 24) (num_lt hs 28) (num_lt hs 36) (num_lt hs 40) (num_lt hs 44) (num_lt hs 48) (num_lt hs 32) (c37_y hs 60 (by decide)) (wf37 _ (fun _ => rfl) _ _ _) (c37_y hs 4 (by decide)) (wf37 _ (fun _ => rfl) _ _ _) (c37_y hs 8 (by decide)) (wf37 _ (fun _ => rfl) _ _ _) (c37_y hs 12 (by decide)) (wf37 _ (fun _ => rfl) _ _ _) (c37_y hs 16 (by decide)) (wf37 _ (fun _ => rfl) _ _ _) (c37_y hs 20 (by decide)) (wf37 _ (fun _ => rfl) _ _ _) (c37_y hs 24 (by decide)) (wf37 _ (fun _ => rfl) _ _ _) (c37_y hs 28 (by decide)) (wf37 _ (fun _ => rfl) _ _ _) (c37_y hs 32 (by decide)) (wf37 _ (fun _ => rfl) _ _ _) (c37_y hs 36 (by decide)) (wf37 _ (fun _ => rfl) _ _ _) (c37_y hs 40 (by decide)) (wf37 _ (fun _ => rfl) _ _ _) (c37_y hs 44 (by decide)) (wf37 _ (fun _ => rfl) _ _ _) (c37_y hs 48 (by decide)) (wf37 _ (fun _ => rfl) _ _ _) (by rw [← e60]; exact sumR_y (by rw [List.length_take, hl]; rfl)) (errO s) (txtO s) rfl (rdV s)
   (fun h => rdM hl (by unfold magicB; rw [e4]; exact h)) (fun h g => rdS hl (by unfold magicB; rw [e4]; exact h) g) (fun h g q => rdF hl (by unfold magicB; rw [e4]; exact h) g q) (fun h g q z => rdX hl (by unfold magicB; rw [e4]; exact h) g q (by rw [← e] at z; exact z)) (fun h g q z => rdY hl (by unfold magicB; rw [e4]; exact h) g q (by rw [← e] at z; exact z)) K hK
  rw [← e] at key
  exact key
 ·exact srd_l Y s hl K hK
section
variable {P : Program}
variable (hmix : P.follows .mixedOrders = true)
include hmix
theorem s37_ok (o37 : FOk P 37 c37) : ∀ C, S37 C → C.wf = true → ConOk P 37 C := by
 intro C h _
 cases h with | mk X o l b0 b1 b2 b3 k0 k1 k2 k3 hl hl2 h0 h1 h2 h3 =>
 exact conOk_walk hmix o37 (callD_sound pHolds hmix tb0_ok la0_ok 5) (get_o _ X o l b0 b1 b2 b3 k0 k1 k2 k3 hl hl2 h0 (by rw [Nat.mul_one]; exact h1) (by exact h2) (by exact h3))
theorem num_ok (o38 : FOk P 38 c38) {la : CF Prop} (hla : LastOk P la id) : LastOk P (lastFn 38 numR la) id := lastFn_ok (callable_fok o38) (fun ρ args args' v hv ha => by
 unfold numR at hv; split at hv
 ·split at hv
  ·rename_i s i hh
   obtain ⟨hl, hs, h1, h2⟩ := hh
   cases hv
   obtain ⟨k, rfl⟩ := Int.eq_ofNat_of_zero_le h1
   exact answers_of_walk hmix o38 (callD_sound pHolds hmix tb0_ok la0_ok 5) ha rfl rfl (fun K hK => num_o _ s k _ _ _ _ (by omega) (get_lt hs k) (get_lt hs (k + 1)) (get_lt hs (k + 2)) (get_lt hs (k + 3)) (nth_get (by omega)) (nth_get (by omega)) (nth_get (by omega)) (nth_get (by omega)) K hK)
  ·cases hv
 ·cases hv) hla
theorem rdR_ok {n : Nat} {af : AFunc} {tab : Nat → Option AFunc} {la : CF Prop} (o : FOk P n af) (h4 : LastOk P la id) (ht : TabOk P tab) (hw : ∀ (Y : Ys Prop) (s : List Nat), (∀ b ∈ s, b < 256) → ∀ (K : V → Mem → Prop), (∀ mm, K (rdV s) mm) → body1 pA (callD pA tab la 5) Y af [.str s] ⟨0, .leaf⟩ K) :
  ∀ (ρ : Ren) (args : List V) (args' : List Value) (v : V), rdR args = some v → VRs ρ args args' → Answers P n args' v := by
 intro ρ args args' v h ha
 unfold rdR at h
 split at h
 ·rename_i s
  cases h
  cases ha with | cons hs hn =>
  cases hn
  cases hs with | str b =>
  exact answers_of_walk hmix o (callD_sound pHolds hmix ht h4 5) (ρ := ρ) (.cons (.str _) .nil) rfl rfl fun K hK => hw _ _ (bytesOf_lt _) K hK
 ·cases h
omit hmix in
theorem tb18_ok (o28 : FOk P 28 c28) : TabOk P tb18 := by
 intro f af h
 simp only [tb18] at h
 by_cases e : f = 28
 ·subst e; cases h; exact o28
 ·rw [nbeqF e] at h; cases h
theorem la6_ok (h4 : LastOk P la4 id) (h19 : LastOk P (la19 numR sumR supR recR) id) (h18 : LastOk P (la18 bytR sumR) id) (o18 : FOk P 18 c18) (o19 : FOk P 19 c19) (o28 : FOk P 28 c28) : LastOk P la6 id :=
 lastFn_ok (callable_fok o18) (rdR_ok hmix o18 h18 (tb18_ok o28) sread_walk) (lastFn_ok (callable_fok o19) (rdR_ok hmix o19 h19 tb0_ok zread_walk) h4)
end
end Go.Proofs.Ythmbmcpjakbepaa
