/- An abstract machine: an addition. No condition. -/
import Derived.Test.YtjekgdkaejgpdaaGreatAMR
import Derived.Test.YtjekgdkaejgpdaaGreatAM40
import Derived.Lib.Join
import Derived.Test.YtjekgdkaejgpdaaGreatAMb
namespace Go.AM
open Go Go.RowKit
def joinV : List V → Option (List Nat)
  | [] => some []
  | .str s :: l => match joinV l with | some t => some (s ++ t) | none => none
  | _ => none
def joinM (m : Mem) (b o len : Nat) : Option (List Nat) :=
  match m.get b with
  | some (.cells cs _) => match takeN len (zCk o cs) with
    | some vs => match joinV vs with
      | some t => bif Nat.ble 1 len && (Nat.ble t.length 140737488355328 && Nat.ble len 140737488355328) then some t else none
      | none => none
    | none => none
  | _ => none
theorem joinS_ex : ∃ R : Mem → Nat → Nat → Nat → Option (List Nat), R = joinM := ⟨_, rfl⟩
noncomputable def joinS : Mem → Nat → Nat → Nat → Option (List Nat) := Classical.choose joinS_ex
theorem joinS_eq : joinS = joinM := Classical.choose_spec joinS_ex
noncomputable def zDW {R : Type} (n : Nat) (last : CF R) : CF R := fun f args m K =>
  match f, args with
  | .func (.func g) [] [], [.slice b o len c sz, .str []] =>
    match (bif Nat.beq g n && Nat.beq sz 1 then joinS m b o len else none) with
    | some t => K (.str t) m
    | none => last (.func (.func g) [] []) [.slice b o len c sz, .str []] m K
  | f, args => last f args m K
theorem zIq : ∀ {n : Nat} {l t : List V} {j : Nat}, takeN n l = some t → j < n → t[j]? = l[j]?
  | 0, _, _, _, _, h => absurd h (Nat.not_lt_zero _)
  | n + 1, [], _, _, h, _ => by cases h
  | n + 1, v :: l, t, j, h, hj => by
    simp only [takeN] at h
    split at h
    · rename_i u hu
      cases h
      cases j with
      | zero => rfl
      | succ j => simpa using zIq hu (by omega)
    · cases h
theorem zF6 : ∀ {n : Nat} {l t : List V}, takeN n l = some t → t.length = n
  | 0, l, _, h => by cases l <;> cases h <;> rfl
  | n + 1, [], _, h => by cases h
  | n + 1, v :: l, t, h => by
    simp only [takeN] at h
    split at h
    · rename_i u hu
      cases h
      simp only [List.length_cons, zF6 hu]
    · cases h
theorem dropN_get : ∀ (n : Nat) (l : List V) (j : Nat), (zCk n l)[j]? = l[n + j]?
  | 0, l, j => by rw [Nat.zero_add]; cases l <;> rfl
  | n + 1, [], j => by simp [zCk]
  | n + 1, v :: l, j => by
    show (zCk n l)[j]? = _
    rw [dropN_get n l j, show n + 1 + j = n + j + 1 by omega, List.getElem?_cons_succ]
theorem zIC {ρ : Ren} {f : Nat → Option Value} : ∀ {vs : List V} {t : List Nat}, joinV vs = some t → (∀ j v, vs[j]? = some v → ∃ v', f j = some v' ∧ VR ρ v v') → ∃ xs : List ByteArray, xs.length = vs.length ∧ (∀ j x, xs[j]? = some x → f j = some (.string x)) ∧ t = xs.flatMap bytesOf
  | [], t, h, _ => by cases h; exact ⟨[], rfl, fun j x h => by simp at h, rfl⟩
  | .str s :: l, t, h, hf => by
    simp only [joinV] at h
    split at h
    · rename_i u hu
      cases h
      obtain ⟨v', h1, h2⟩ := hf 0 (.str s) rfl
      cases h2 with | str x =>
      obtain ⟨xs, e1, e2, e3⟩ := zIC (f := fun j => f (j + 1)) hu fun j v hv => hf (j + 1) v (by simpa using hv)
      refine ⟨x :: xs, by simp [e1], fun j y hy => ?_, by rw [List.flatMap_cons, e3]⟩
      cases j with
      | zero => simp at hy; subst hy; exact h1
      | succ j => exact e2 j y (by simpa using hy)
    · cases h
  | .bool _ :: _, _, h, _ => by cases h
  | .int _ _ :: _, _, h, _ => by cases h
  | .ptr _ _ :: _, _, h, _ => by cases h
  | .nilptr :: _, _, h, _ => by cases h
  | .slice _ _ _ _ _ :: _, _, h, _ => by cases h
  | .nilslice :: _, _, h, _ => by cases h
  | .map _ :: _, _, h, _ => by cases h
  | .nilmap :: _, _, h, _ => by cases h
  | .func _ _ _ :: _, _, h, _ => by cases h
  | .nilfunc :: _, _, h, _ => by cases h
  | .yield _ :: _, _, h, _ => by cases h
  | .iface _ _ :: _, _, h, _ => by cases h
  | .niliface :: _, _, h, _ => by cases h
  | .agg _ :: _, _, h, _ => by cases h
  | .tuple _ :: _, _, h, _ => by cases h
  | .any :: _, _, h, _ => by cases h
theorem str_nil {ρ : Ren} {z : List Nat} {v' : Value} (h : VR ρ (.str z) v') (hz : z = []) : v' = .string ⟨#[]⟩ := by
  cases h with | str s =>
  have h1 : s.data.toList = [] := by simpa [bytesOf] using hz
  cases s with | mk d => simp at h1; rw [h1]
theorem joinTail_nil (r : List (List UInt8)) : Lib.joinTail [] r = r.flatten := by
  simp [Lib.joinTail]
theorem join_flat (xs : List ByteArray) : bytesOf ⟨(Lib.join (xs.map (·.data.toList)) (⟨#[]⟩ : ByteArray).data.toList).toArray⟩ = xs.flatMap bytesOf := by
  cases xs with
  | nil => rfl
  | cons x r =>
    rw [List.map_cons, Lib.join_cons, joinTail_nil]
    simp [bytesOf, List.map_flatten, List.flatMap, List.map_append]
    rfl
theorem lastJoin_ok {R : Type} {H : R → Prop} {P : Program} {n : Nat} (hcl : zCm P n)
    (hc : ∀ (bk o c : Nat) (xs : List ByteArray) (sep : ByteArray) (w : World), (∀ (j : Nat) x, xs[j]? = some x → w.cell? ⟨bk, o + j, none⟩ = some (.string x)) → bk < w.heap.size → xs.length ≤ 140737488355328 → xs.length ≤ c → (Lib.join (xs.map (·.data.toList)) sep.data.toList).length ≤ 140737488355328 →
      Calls P n #[.slice (some ⟨bk, o, none⟩) xs.length c, .string sep] w fun e w' => e = .returned (.string ⟨(Lib.join (xs.map (·.data.toList)) sep.data.toList).toArray⟩) ∧ Below w.heap.size w w') {last : CF R} (hl : zAv P last H) : zAv P (zDW n last) H := by
  intro ρ₀ ρ m w f f' args args' K hle hm hf ha hH
  unfold zDW at hH
  split at hH
  · rename_i g b o len c sz
    split at hH
    · rename_i t ht
      cases e : (Nat.beq g n && Nat.beq sz 1) with
      | false => rw [e] at ht; cases ht
      | true =>
        rw [e, cond_true, joinS_eq] at ht
        simp only [Bool.and_eq_true, zAL] at e
        obtain ⟨rfl, rfl⟩ := e
        unfold joinM at ht
        split at ht
        · rename_i cs ro hcs
          split at ht
          · rename_i vs hvs
            split at ht
            · rename_i t' hj
              cases e : (Nat.ble 1 len && (Nat.ble t'.length 140737488355328 && Nat.ble len 140737488355328)) with
              | false => rw [e] at ht; cases ht
              | true =>
                rw [e, cond_true] at ht
                cases ht
                simp only [Bool.and_eq_true, zAA] at e
                obtain ⟨g1, g2, g3⟩ := e
                cases hf with | func k1 k2 =>
                cases k1; cases k2
                cases ha with | cons k3 k4 =>
                cases k4 with | cons k5 k6 =>
                cases k6
                cases k3 with | @slice _ _ _ _ _ i off' cap' hb e1 e2 e3 e4 =>
                have hse := str_nil k5 rfl
                subst hse
                obtain ⟨cs', ty, lo, hi, o1, o2, o3, o4⟩ := hm.obj b i _ hb hcs
                have hoff := e3 (by omega)
                have hlt := (hm.lt b i hb).2
                obtain ⟨xs, x1, x2, x3⟩ := zIC (ρ := ρ) (f := fun j => w.cell? ⟨i.b, off' + j, none⟩) hj fun j v hv => by
                  have hjl : j < len := by rw [← zF6 hvs]; exact (List.getElem?_eq_some_iff.1 hv).1
                  rw [zIq hvs hjl, dropN_get] at hv
                  obtain ⟨v', q1, q2⟩ := o3 _ v hv
                  refine ⟨v', ?_, q2⟩
                  rw [cell_of_heap o1, show off' + j = o + j + i.d by omega]
                  exact q1
                have hxl : xs.length = len := by rw [x1, zF6 hvs]
                subst hxl
                subst x3
                have hlen : (Lib.join (xs.map (·.data.toList)) (⟨#[]⟩ : ByteArray).data.toList).length ≤ 140737488355328 := by
                  have h1 := congrArg List.length (join_flat xs)
                  have h2 : (bytesOf ⟨(Lib.join (xs.map (·.data.toList)) (⟨#[]⟩ : ByteArray).data.toList).toArray⟩).length = (Lib.join (xs.map (·.data.toList)) (⟨#[]⟩ : ByteArray).data.toList).length := by
                    unfold bytesOf; rw [List.length_map]
                  omega
                refine .inl ⟨g, _, zC1 hcl _ _ w, (hc i.b off' cap' xs _ w x2 hlt g3 (by omega) hlen).mono fun e w' ⟨he, hs⟩ => ?_⟩
                subst he
                rw [← join_flat xs] at hH
                exact ⟨ρ, _, m, .str _, hm.stays (Below.stays hs), Ext.of_stays (Below.stays hs), hH⟩
            · cases ht
          · cases ht
        · cases ht
    · exact hl ρ₀ ρ m w _ f' _ args' K hle hm hf ha hH
  · exact hl ρ₀ ρ m w f f' args args' K hle hm hf ha hH
end Go.AM
