/- Needs: runs by script. No condition. -/
import Derived.Test.YtjikaankdnmabaaVD
import Derived.Test.YtjikaankdnmabaaAM45
import Derived.Test.YtjikaankdnmabaaAM46
namespace Go.Proofs.Ytjikaankdnmabaa
open Go Go.AM
set_option maxRecDepth 100000
set_option maxHeartbeats 0
set_option linter.unusedVariables false
inductive S50 : Con → Prop
  | mk (L : List (Int × List Nat × Nat)) (c : Nat) (ro : Bool) (x : Int) : S50 ⟨[.int .i64 x, .ptr 0 0], [.cells [.map 1] false, .map (mV L) c ro], .bool (hasG L x), [.cells [.map 1] false, .map (mV L) c ro], []⟩
abbrev la50 : CF Prop := lastCl 50 S50 la0
theorem mono50 : MonoCF la50 := mono_cl mono_false
abbrev tbDel : Nat → Option AFunc := fun f => bif Nat.beq f 62 then some c62 else none
abbrev tbIx : Nat → Option AFunc := fun f => bif Nat.beq f 48 then some c48 else none
abbrev tbVal : Nat → Option AFunc := fun f => bif Nat.beq f 36 then some c36 else none
abbrev inP (b0 b1 b2 b3 : Bool) : List V := [.bool b0, .bool b1, .bool b2, .bool b3]
def inB4 (b0 b1 b2 b3 : Bool) (x : Int) : Bool := if x = 0 then b0 else if x = 1 then b1 else if x = 2 then b2 else b3
inductive S52 : Con → Prop
  | mk (b0 b1 b2 b3 : Bool) (x : Int) (h0 : 0 ≤ x) (h1 : x < 4) : S52 ⟨[.int .i64 x, .ptr 0 0], [.cells (inP b0 b1 b2 b3) false], .bool (!inB4 b0 b1 b2 b3 x), [.cells (inP b0 b1 b2 b3) false], []⟩
abbrev la52 : CF Prop := lastCl 52 S52 la0
theorem mono52 : MonoCF la52 := mono_cl mono_false
abbrev tbWh : Nat → Option AFunc := fun f => bif Nat.beq f 51 then some c51 else bif Nat.beq f 62 then some c62 else none
def restL (L : List (Int × List Nat × Nat)) (xs : List Int) : List Int := xs.filter fun x => !hasG L x
inductive S49 : Con → Prop
  | mk (L : List (Int × List Nat × Nat)) (c : Nat) (ro : Bool) (xs : List Int) (h1 : 1 ≤ xs.length) (h3 : xs.length ≤ 3) : S49 ⟨[.slice 0 0 xs.length xs.length 1, .func (.func 50) [] [.ptr 1 0]], [.cells (iV xs) false, .cells [.map 2] false, .map (mV L) c ro], .slice 0 0 (restL L xs).length xs.length 1, [.cells (iV (restL L xs ++ List.replicate (xs.length - (restL L xs).length) 0)) false, .cells [.map 2] false, .map (mV L) c ro], []⟩
inductive S37 : Con → Prop
  | mk (j k : Nat) (xs zs : List Int) (hj : xs.length = j) (h1 : 1 ≤ j) (h4 : j ≤ 4) (hk : (xs ++ zs).length = k) (k4 : k ≤ 4) : S37 ⟨[.func (.func 54) [] [.ptr 0 0]], [.cells [.slice 1 0 j k 1] false, .cells (iV (xs ++ zs)) false], .slice 2 0 j j 1, [.cells [.slice 1 0 j k 1] false, .cells (iV (xs ++ zs)) false], [(2, .cells (iV xs) false)]⟩
  | nil (k : Nat) (zs : List Int) (hk : zs.length = k) (k1 : 1 ≤ k) (k4 : k ≤ 4) : S37 ⟨[.func (.func 54) [] [.ptr 0 0]], [.cells [.slice 1 0 0 k 1] false, .cells (iV zs) false], .nilslice, [.cells [.slice 1 0 0 k 1] false, .cells (iV zs) false], []⟩
inductive S53 : Con → Prop
  | s (C : Con) (h : SortS C) : S53 C
  | nil : S53 ⟨[.nilslice], [], .tuple [], [], []⟩
abbrev la35 : CF Prop := lastC 37 S37 (lastC 53 S53 la0)
theorem mono35 : MonoCF la35 := mono_c (mono_c mono_false)
abbrev tbSn : Nat → Option AFunc := fun f => bif Nat.beq f 63 then some c63 else bif Nat.beq f 64 then some c64 else bif Nat.beq f 65 then some c65 else bif Nat.beq f 75 then some c75 else none
inductive S35 : Con → Prop
  | mk (j k : Nat) (xs zs : List Int) (hj : xs.length = j) (h1 : 1 ≤ j) (h4 : j ≤ 4) (hk : (xs ++ zs).length = k) (k4 : k ≤ 4) : S35 ⟨[.func (.func 54) [] [.ptr 0 0]], [.cells [.slice 1 0 j k 1] false, .cells (iV (xs ++ zs)) false], .slice 2 0 j j 1, [.cells [.slice 1 0 j k 1] false, .cells (iV (xs ++ zs)) false], [(2, .cells (iV (sortI xs)) false)]⟩
  | nil (k : Nat) (zs : List Int) (hk : zs.length = k) (k1 : 1 ≤ k) (k4 : k ≤ 4) : S35 ⟨[.func (.func 54) [] [.ptr 0 0]], [.cells [.slice 1 0 0 k 1] false, .cells (iV zs) false], .nilslice, [.cells [.slice 1 0 0 k 1] false, .cells (iV zs) false], []⟩
noncomputable def S16 : List V → Option Lay
  | [.agg [.int .i64 l, .int .i64 m, .int .i64 r], .int .i64 s] => if roB l m r s = true then some (.new (.slice (m - 1).toNat 1) none (.cells (dataF m (pz l m r s)) false)) else some (.plain .nilslice)
  | _ => none
theorem S16Ex : ∃ f, f = S16 := ⟨_, rfl⟩
noncomputable def S16s : List V → Option Lay := Classical.choose S16Ex
theorem S16s_eq : S16s = S16 := Classical.choose_spec S16Ex
noncomputable abbrev la33 : CF Prop := lastC 49 S49 (lastC 35 S35 (lastL 16 S16s la0))
theorem mono33 : MonoCF la33 := mono_c (mono_c (mono_l mono_false))
inductive S33 : Con → Prop
  | mk (l m r s : Int) (L : List (Int × List Nat × Nat)) (c : Nat) (ro : Bool) (ho : roB l m r s = true) (j : Nat) (hj : (restL L (dataL m (pz l m r s))).length = j) (h1 : 1 ≤ j) : S33 ⟨[geo l m r, .int .i64 s, .map 0], [.map (mV L) c ro], .slice 5 0 j j 1, [.map (mV L) c ro], [(5, .cells (iV (sortI (restL L (dataL m (pz l m r s))))) false)]⟩
  | nil (l m r s : Int) (L : List (Int × List Nat × Nat)) (c : Nat) (ro : Bool) (ho : roB l m r s = true) (hj : restL L (dataL m (pz l m r s)) = []) : S33 ⟨[geo l m r, .int .i64 s, .map 0], [.map (mV L) c ro], .nilslice, [.map (mV L) c ro], []⟩
inductive S34 : Con → Prop
  | mk (b0 b1 b2 b3 : Bool) (ys : List Int) (h : ∀ y ∈ ys, 0 ≤ y ∧ y < 4) (h1 : 1 ≤ ys.length) (h3 : ys.length ≤ 3) (j : Nat) (hj : ys.length = j) : S34 ⟨[ag b0 b1 b2 b3, .slice 0 0 j j 1], [.cells (iV ys) false], .bool (ys.all (inB4 b0 b1 b2 b3)), [.cells (iV ys) false], []⟩
  | nil (b0 b1 b2 b3 : Bool) : S34 ⟨[ag b0 b1 b2 b3, .nilslice], [], .bool true, [], []⟩
inductive S31 : Con → Prop
  | mk (xs : List Int) (x : Int) (k : Nat) (hk : xs.length = k) (h1 : 1 ≤ k) (h3 : k ≤ 3) : S31 ⟨[.slice 0 0 k k 1, .int .i64 x], [.cells (iV xs) false], .bool (decide (x ∈ xs)), [.cells (iV xs) false], []⟩
noncomputable abbrev oc_Qa (L : LL) (c : Nat) (ro : Bool) (x : Int) (h : Bool) : Con := ⟨[.int .i64 x, .ptr 0 0], [.cells [.map 1] false, .map (mV L) c ro], .bool h, [.cells [.map 1] false, .map (mV L) c ro], []⟩
theorem oc (Y : Ys Prop) (L : LL) (c : Nat) (ro : Bool) (x : Int) (t : List Nat) (h : Bool) (q : lookV (.one .int) true (.str []) (.int .i64 x) (mV L) = some (.tuple [.str t, .bool h])) :
   body1 pA (callD pA tb0 la0 5) Y c50 (oc_Qa L c ro x h).args (memO (oc_Qa L c ro x h).pre) (endC (oc_Qa L c ro x h)) :=
  walkC_of_vc (C := (oc_Qa L c ro x h)) (mono_false) (.wait 3 (.res (V.tuple [V.str t, vb h]) .nil))
  (show (lookV (KT.one SK.int) true (V.str []) (vi x) (mV L) = some (V.tuple [V.str t, vb h]) ∧ vb h = vb h ∧ (rR (some (oC [V.map 1] false)) ∧ (rR (some (oM (mV L) c ro)) ∧ True)) ∧ True) from
  ⟨q, (by rfl), ⟨(by rfl), ⟨(by rfl), trivial⟩⟩, trivial⟩)
  (by kernel_rfl) Y
noncomputable abbrev del_1_0_Qa (L : LL) (c : Nat) (ro : Bool) (d0 : Int) : Con := ⟨[.slice 0 0 1 1 1, .func (.func 50) [] [.ptr 1 0]], [.cells [.int .i64 d0] false, .cells [.map 2] false, .map (mV L) c ro], .slice 0 0 1 1 1, [.cells [.int .i64 d0] false, .cells [.map 2] false, .map (mV L) c ro], []⟩
noncomputable abbrev del_1_0_Qb (L : LL) (c : Nat) (ro : Bool) (d0 : Int) : Con := { args := [vi d0, V.ptr 0 0], pre := [oC [V.map 1] false, oM (mV L) c ro], ans := vb false, old := [oC [V.map 1] false, oM (mV L) c ro], new := [] }
theorem del_1_0 (Y : Ys Prop) (L : LL) (c : Nat) (ro : Bool) (d0 : Int) (u0 : S50 (del_1_0_Qb L c ro d0)) (w0 : Con.wf (del_1_0_Qb L c ro d0) = true) :
   body1 pA (callD pA tbDel la50 6) Y c49 (del_1_0_Qa L c ro d0).args (memO (del_1_0_Qa L c ro d0).pre) (endC (del_1_0_Qa L c ro d0)) :=
  walkC_of_vc (C := (del_1_0_Qa L c ro d0)) (mono50) (.wait 18 (.con (del_1_0_Qb L c ro d0) [1, 2] (.fixM 2 (oM (mV L) c ro) .nil)))
  (show (cB (del_1_0_Qb L c ro d0) [1, 2] ([vi d0, V.ptr 1 0]) la50 (.func (.func 50) [] [V.ptr 1 0]) ([vi d0]) ((some (oC [V.map 2] false) = some (AObj.ren (nthD [1, 2]) (oC [V.map 1] false)) ∧ (oR [1, 2] (oM (mV L) c ro) ∧ True)) ∧ (eM (del_1_0_Qb L c ro d0) [1, 2] 3 (mV L) c ro ∧ (rR (V.slice 0 0 1 1 1) ∧ (rR (some (oC [vi d0] false)) ∧ (rR (some (oC [V.map 2] false)) ∧ (rR (some (oM (mV L) c ro)) ∧ True))) ∧ True)))) from
  ⟨fun m' K' h1 h2 => conInCl (u0) h1 h2, w0, rfl, rfl, ⟨rfl, ⟨kMs, trivial⟩⟩, ⟨kM, ⟨(by rfl), ⟨(by rfl), ⟨(by rfl), ⟨(by rfl), trivial⟩⟩⟩, trivial⟩⟩⟩)
  (by kernel_rfl) Y
noncomputable abbrev del_1_1_Qa (L : LL) (c : Nat) (ro : Bool) (d0 : Int) : Con := ⟨[.slice 0 0 1 1 1, .func (.func 50) [] [.ptr 1 0]], [.cells [.int .i64 d0] false, .cells [.map 2] false, .map (mV L) c ro], .slice 0 0 0 1 1, [.cells [.int .i64 0] false, .cells [.map 2] false, .map (mV L) c ro], []⟩
noncomputable abbrev del_1_1_Qb (L : LL) (c : Nat) (ro : Bool) (d0 : Int) : Con := { args := [vi d0, V.ptr 0 0], pre := [oC [V.map 1] false, oM (mV L) c ro], ans := vb true, old := [oC [V.map 1] false, oM (mV L) c ro], new := [] }
theorem del_1_1 (Y : Ys Prop) (L : LL) (c : Nat) (ro : Bool) (d0 : Int) (u0 : S50 (del_1_1_Qb L c ro d0)) (w0 : Con.wf (del_1_1_Qb L c ro d0) = true) :
   body1 pA (callD pA tbDel la50 6) Y c49 (del_1_1_Qa L c ro d0).args (memO (del_1_1_Qa L c ro d0).pre) (endC (del_1_1_Qa L c ro d0)) :=
  walkC_of_vc (C := (del_1_1_Qa L c ro d0)) (mono50) (.wait 18 (.con (del_1_1_Qb L c ro d0) [1, 2] (.fixM 2 (oM (mV L) c ro) .nil)))
  (show (cB (del_1_1_Qb L c ro d0) [1, 2] ([vi d0, V.ptr 1 0]) la50 (.func (.func 50) [] [V.ptr 1 0]) ([vi d0]) ((some (oC [V.map 2] false) = some (AObj.ren (nthD [1, 2]) (oC [V.map 1] false)) ∧ (oR [1, 2] (oM (mV L) c ro) ∧ True)) ∧ (eM (del_1_1_Qb L c ro d0) [1, 2] 3 (mV L) c ro ∧ (rR (V.slice 0 0 0 1 1) ∧ (some (oC [vi (Int.ofNat 0)] false) = some (oC [vi 0] false) ∧ (rR (some (oC [V.map 2] false)) ∧ (rR (some (oM (mV L) c ro)) ∧ True))) ∧ True)))) from
  ⟨fun m' K' h1 h2 => conInCl (u0) h1 h2, w0, rfl, rfl, ⟨rfl, ⟨kMs, trivial⟩⟩, ⟨kM, ⟨(by rfl), ⟨(by rfl), ⟨(by rfl), ⟨(by rfl), trivial⟩⟩⟩, trivial⟩⟩⟩)
  (by kernel_rfl) Y
noncomputable abbrev del_2_0_Qa (L : LL) (c : Nat) (ro : Bool) (d0 d1 : Int) : Con := ⟨[.slice 0 0 2 2 1, .func (.func 50) [] [.ptr 1 0]], [.cells [.int .i64 d0, .int .i64 d1] false, .cells [.map 2] false, .map (mV L) c ro], .slice 0 0 2 2 1, [.cells [.int .i64 d0, .int .i64 d1] false, .cells [.map 2] false, .map (mV L) c ro], []⟩
noncomputable abbrev del_2_0_Qb (L : LL) (c : Nat) (ro : Bool) (d1 : Int) : Con := { args := [vi d1, V.ptr 0 0], pre := [oC [V.map 1] false, oM (mV L) c ro], ans := vb false, old := [oC [V.map 1] false, oM (mV L) c ro], new := [] }
theorem del_2_0 (Y : Ys Prop) (L : LL) (c : Nat) (ro : Bool) (d0 d1 : Int) (u0 : S50 (del_1_0_Qb L c ro d0)) (w0 : Con.wf (del_1_0_Qb L c ro d0) = true) (u1 : S50 (del_2_0_Qb L c ro d1)) (w1 : Con.wf (del_2_0_Qb L c ro d1) = true) :
   body1 pA (callD pA tbDel la50 6) Y c49 (del_2_0_Qa L c ro d0 d1).args (memO (del_2_0_Qa L c ro d0 d1).pre) (endC (del_2_0_Qa L c ro d0 d1)) :=
  walkC_of_vc (C := (del_2_0_Qa L c ro d0 d1)) (mono50) (.wait 18 (.con (del_1_0_Qb L c ro d0) [1, 2] (.fixM 2 (oM (mV L) c ro) (.wait 12 (.con (del_2_0_Qb L c ro d1) [1, 2] (.fixM 2 (oM (mV L) c ro) .nil))))))
  (show (cB (del_1_0_Qb L c ro d0) [1, 2] ([vi d0, V.ptr 1 0]) la50 (.func (.func 50) [] [V.ptr 1 0]) ([vi d0]) ((some (oC [V.map 2] false) = some (AObj.ren (nthD [1, 2]) (oC [V.map 1] false)) ∧ (oR [1, 2] (oM (mV L) c ro) ∧ True)) ∧ (eM (del_1_0_Qb L c ro d0) [1, 2] 3 (mV L) c ro ∧ (cB (del_2_0_Qb L c ro d1) [1, 2] ([vi d1, V.ptr 1 0]) la50 (.func (.func 50) [] [V.ptr 1 0]) ([vi d1]) ((some (oC [V.map 2] false) = some (AObj.ren (nthD [1, 2]) (oC [V.map 1] false)) ∧ (oR [1, 2] (oM (mV L) c ro) ∧ True)) ∧ (eM (del_2_0_Qb L c ro d1) [1, 2] 3 (mV L) c ro ∧ (rR (V.slice 0 0 2 2 1) ∧ (rR (some (oC [vi d0, vi d1] false)) ∧ (rR (some (oC [V.map 2] false)) ∧ (rR (some (oM (mV L) c ro)) ∧ True))) ∧ True))))))) from
  ⟨fun m' K' h1 h2 => conInCl (u0) h1 h2, w0, rfl, rfl, ⟨rfl, ⟨kMs, trivial⟩⟩, ⟨kM, ⟨fun m' K' h1 h2 => conInCl (u1) h1 h2, w1, rfl, rfl, ⟨rfl, ⟨kMs, trivial⟩⟩, ⟨kM, ⟨(by rfl), ⟨(by rfl), ⟨(by rfl), ⟨(by rfl), trivial⟩⟩⟩, trivial⟩⟩⟩⟩⟩)
  (by kernel_rfl) Y
noncomputable abbrev del_2_1_Qa (L : LL) (c : Nat) (ro : Bool) (d0 d1 : Int) : Con := ⟨[.slice 0 0 2 2 1, .func (.func 50) [] [.ptr 1 0]], [.cells [.int .i64 d0, .int .i64 d1] false, .cells [.map 2] false, .map (mV L) c ro], .slice 0 0 1 2 1, [.cells [.int .i64 d1, .int .i64 0] false, .cells [.map 2] false, .map (mV L) c ro], []⟩
theorem del_2_1 (Y : Ys Prop) (L : LL) (c : Nat) (ro : Bool) (d0 d1 : Int) (u0 : S50 (del_1_1_Qb L c ro d0)) (w0 : Con.wf (del_1_1_Qb L c ro d0) = true) (u1 : S50 (del_2_0_Qb L c ro d1)) (w1 : Con.wf (del_2_0_Qb L c ro d1) = true) :
   body1 pA (callD pA tbDel la50 6) Y c49 (del_2_1_Qa L c ro d0 d1).args (memO (del_2_1_Qa L c ro d0 d1).pre) (endC (del_2_1_Qa L c ro d0 d1)) :=
  walkC_of_vc (C := (del_2_1_Qa L c ro d0 d1)) (mono50) (.wait 18 (.con (del_1_1_Qb L c ro d0) [1, 2] (.fixM 2 (oM (mV L) c ro) (.wait 23 (.con (del_2_0_Qb L c ro d1) [1, 2] (.fixM 2 (oM (mV L) c ro) .nil))))))
  (show (cB (del_1_1_Qb L c ro d0) [1, 2] ([vi d0, V.ptr 1 0]) la50 (.func (.func 50) [] [V.ptr 1 0]) ([vi d0]) ((some (oC [V.map 2] false) = some (AObj.ren (nthD [1, 2]) (oC [V.map 1] false)) ∧ (oR [1, 2] (oM (mV L) c ro) ∧ True)) ∧ (eM (del_1_1_Qb L c ro d0) [1, 2] 3 (mV L) c ro ∧ (cB (del_2_0_Qb L c ro d1) [1, 2] ([vi d1, V.ptr 1 0]) la50 (.func (.func 50) [] [V.ptr 1 0]) ([vi d1]) ((some (oC [V.map 2] false) = some (AObj.ren (nthD [1, 2]) (oC [V.map 1] false)) ∧ (oR [1, 2] (oM (mV L) c ro) ∧ True)) ∧ (eM (del_2_0_Qb L c ro d1) [1, 2] 3 (mV L) c ro ∧ (rR (V.slice 0 0 1 2 1) ∧ (some (oC [vi d1, vi (Int.ofNat 0)] false) = some (oC [vi d1, vi 0] false) ∧ (rR (some (oC [V.map 2] false)) ∧ (rR (some (oM (mV L) c ro)) ∧ True))) ∧ True))))))) from
  ⟨fun m' K' h1 h2 => conInCl (u0) h1 h2, w0, rfl, rfl, ⟨rfl, ⟨kMs, trivial⟩⟩, ⟨kM, ⟨fun m' K' h1 h2 => conInCl (u1) h1 h2, w1, rfl, rfl, ⟨rfl, ⟨kMs, trivial⟩⟩, ⟨kM, ⟨(by rfl), ⟨(by rfl), ⟨(by rfl), ⟨(by rfl), trivial⟩⟩⟩, trivial⟩⟩⟩⟩⟩)
  (by kernel_rfl) Y
noncomputable abbrev del_2_2_Qa (L : LL) (c : Nat) (ro : Bool) (d0 d1 : Int) : Con := ⟨[.slice 0 0 2 2 1, .func (.func 50) [] [.ptr 1 0]], [.cells [.int .i64 d0, .int .i64 d1] false, .cells [.map 2] false, .map (mV L) c ro], .slice 0 0 1 2 1, [.cells [.int .i64 d0, .int .i64 0] false, .cells [.map 2] false, .map (mV L) c ro], []⟩
noncomputable abbrev del_2_2_Qb (L : LL) (c : Nat) (ro : Bool) (d1 : Int) : Con := { args := [vi d1, V.ptr 0 0], pre := [oC [V.map 1] false, oM (mV L) c ro], ans := vb true, old := [oC [V.map 1] false, oM (mV L) c ro], new := [] }
theorem del_2_2 (Y : Ys Prop) (L : LL) (c : Nat) (ro : Bool) (d0 d1 : Int) (u0 : S50 (del_1_0_Qb L c ro d0)) (w0 : Con.wf (del_1_0_Qb L c ro d0) = true) (u1 : S50 (del_2_2_Qb L c ro d1)) (w1 : Con.wf (del_2_2_Qb L c ro d1) = true) :
   body1 pA (callD pA tbDel la50 6) Y c49 (del_2_2_Qa L c ro d0 d1).args (memO (del_2_2_Qa L c ro d0 d1).pre) (endC (del_2_2_Qa L c ro d0 d1)) :=
  walkC_of_vc (C := (del_2_2_Qa L c ro d0 d1)) (mono50) (.wait 18 (.con (del_1_0_Qb L c ro d0) [1, 2] (.fixM 2 (oM (mV L) c ro) (.wait 12 (.con (del_2_2_Qb L c ro d1) [1, 2] (.fixM 2 (oM (mV L) c ro) .nil))))))
  (show (cB (del_1_0_Qb L c ro d0) [1, 2] ([vi d0, V.ptr 1 0]) la50 (.func (.func 50) [] [V.ptr 1 0]) ([vi d0]) ((some (oC [V.map 2] false) = some (AObj.ren (nthD [1, 2]) (oC [V.map 1] false)) ∧ (oR [1, 2] (oM (mV L) c ro) ∧ True)) ∧ (eM (del_1_0_Qb L c ro d0) [1, 2] 3 (mV L) c ro ∧ (cB (del_2_2_Qb L c ro d1) [1, 2] ([vi d1, V.ptr 1 0]) la50 (.func (.func 50) [] [V.ptr 1 0]) ([vi d1]) ((some (oC [V.map 2] false) = some (AObj.ren (nthD [1, 2]) (oC [V.map 1] false)) ∧ (oR [1, 2] (oM (mV L) c ro) ∧ True)) ∧ (eM (del_2_2_Qb L c ro d1) [1, 2] 3 (mV L) c ro ∧ (rR (V.slice 0 0 1 2 1) ∧ (some (oC [vi d0, vi (Int.ofNat 0)] false) = some (oC [vi d0, vi 0] false) ∧ (rR (some (oC [V.map 2] false)) ∧ (rR (some (oM (mV L) c ro)) ∧ True))) ∧ True))))))) from
  ⟨fun m' K' h1 h2 => conInCl (u0) h1 h2, w0, rfl, rfl, ⟨rfl, ⟨kMs, trivial⟩⟩, ⟨kM, ⟨fun m' K' h1 h2 => conInCl (u1) h1 h2, w1, rfl, rfl, ⟨rfl, ⟨kMs, trivial⟩⟩, ⟨kM, ⟨(by rfl), ⟨(by rfl), ⟨(by rfl), ⟨(by rfl), trivial⟩⟩⟩, trivial⟩⟩⟩⟩⟩)
  (by kernel_rfl) Y
noncomputable abbrev del_2_3_Qa (L : LL) (c : Nat) (ro : Bool) (d0 d1 : Int) : Con := ⟨[.slice 0 0 2 2 1, .func (.func 50) [] [.ptr 1 0]], [.cells [.int .i64 d0, .int .i64 d1] false, .cells [.map 2] false, .map (mV L) c ro], .slice 0 0 0 2 1, [.cells [.int .i64 0, .int .i64 0] false, .cells [.map 2] false, .map (mV L) c ro], []⟩
theorem del_2_3 (Y : Ys Prop) (L : LL) (c : Nat) (ro : Bool) (d0 d1 : Int) (u0 : S50 (del_1_1_Qb L c ro d0)) (w0 : Con.wf (del_1_1_Qb L c ro d0) = true) (u1 : S50 (del_2_2_Qb L c ro d1)) (w1 : Con.wf (del_2_2_Qb L c ro d1) = true) :
   body1 pA (callD pA tbDel la50 6) Y c49 (del_2_3_Qa L c ro d0 d1).args (memO (del_2_3_Qa L c ro d0 d1).pre) (endC (del_2_3_Qa L c ro d0 d1)) :=
  walkC_of_vc (C := (del_2_3_Qa L c ro d0 d1)) (mono50) (.wait 18 (.con (del_1_1_Qb L c ro d0) [1, 2] (.fixM 2 (oM (mV L) c ro) (.wait 23 (.con (del_2_2_Qb L c ro d1) [1, 2] (.fixM 2 (oM (mV L) c ro) .nil))))))
  (show (cB (del_1_1_Qb L c ro d0) [1, 2] ([vi d0, V.ptr 1 0]) la50 (.func (.func 50) [] [V.ptr 1 0]) ([vi d0]) ((some (oC [V.map 2] false) = some (AObj.ren (nthD [1, 2]) (oC [V.map 1] false)) ∧ (oR [1, 2] (oM (mV L) c ro) ∧ True)) ∧ (eM (del_1_1_Qb L c ro d0) [1, 2] 3 (mV L) c ro ∧ (cB (del_2_2_Qb L c ro d1) [1, 2] ([vi d1, V.ptr 1 0]) la50 (.func (.func 50) [] [V.ptr 1 0]) ([vi d1]) ((some (oC [V.map 2] false) = some (AObj.ren (nthD [1, 2]) (oC [V.map 1] false)) ∧ (oR [1, 2] (oM (mV L) c ro) ∧ True)) ∧ (eM (del_2_2_Qb L c ro d1) [1, 2] 3 (mV L) c ro ∧ (rR (V.slice 0 0 0 2 1) ∧ (some (oC [vi (Int.ofNat 0), vi (Int.ofNat 0)] false) = some (oC [vi 0, vi 0] false) ∧ (rR (some (oC [V.map 2] false)) ∧ (rR (some (oM (mV L) c ro)) ∧ True))) ∧ True))))))) from
  ⟨fun m' K' h1 h2 => conInCl (u0) h1 h2, w0, rfl, rfl, ⟨rfl, ⟨kMs, trivial⟩⟩, ⟨kM, ⟨fun m' K' h1 h2 => conInCl (u1) h1 h2, w1, rfl, rfl, ⟨rfl, ⟨kMs, trivial⟩⟩, ⟨kM, ⟨(by rfl), ⟨(by rfl), ⟨(by rfl), ⟨(by rfl), trivial⟩⟩⟩, trivial⟩⟩⟩⟩⟩)
  (by kernel_rfl) Y
noncomputable abbrev del_3_0_Qa (L : LL) (c : Nat) (ro : Bool) (d0 d1 d2 : Int) : Con := ⟨[.slice 0 0 3 3 1, .func (.func 50) [] [.ptr 1 0]], [.cells [.int .i64 d0, .int .i64 d1, .int .i64 d2] false, .cells [.map 2] false, .map (mV L) c ro], .slice 0 0 3 3 1, [.cells [.int .i64 d0, .int .i64 d1, .int .i64 d2] false, .cells [.map 2] false, .map (mV L) c ro], []⟩
noncomputable abbrev del_3_0_Qb (L : LL) (c : Nat) (ro : Bool) (d2 : Int) : Con := { args := [vi d2, V.ptr 0 0], pre := [oC [V.map 1] false, oM (mV L) c ro], ans := vb false, old := [oC [V.map 1] false, oM (mV L) c ro], new := [] }
theorem del_3_0 (Y : Ys Prop) (L : LL) (c : Nat) (ro : Bool) (d0 d1 d2 : Int) (u0 : S50 (del_1_0_Qb L c ro d0)) (w0 : Con.wf (del_1_0_Qb L c ro d0) = true) (u1 : S50 (del_2_0_Qb L c ro d1)) (w1 : Con.wf (del_2_0_Qb L c ro d1) = true) (u2 : S50 (del_3_0_Qb L c ro d2)) (w2 : Con.wf (del_3_0_Qb L c ro d2) = true) :
   body1 pA (callD pA tbDel la50 6) Y c49 (del_3_0_Qa L c ro d0 d1 d2).args (memO (del_3_0_Qa L c ro d0 d1 d2).pre) (endC (del_3_0_Qa L c ro d0 d1 d2)) :=
  walkC_of_vc (C := (del_3_0_Qa L c ro d0 d1 d2)) (mono50) (.wait 18 (.con (del_1_0_Qb L c ro d0) [1, 2] (.fixM 2 (oM (mV L) c ro) (.wait 12 (.con (del_2_0_Qb L c ro d1) [1, 2] (.fixM 2 (oM (mV L) c ro) (.wait 12 (.con (del_3_0_Qb L c ro d2) [1, 2] (.fixM 2 (oM (mV L) c ro) .nil)))))))))
  (show (cB (del_1_0_Qb L c ro d0) [1, 2] ([vi d0, V.ptr 1 0]) la50 (.func (.func 50) [] [V.ptr 1 0]) ([vi d0]) ((some (oC [V.map 2] false) = some (AObj.ren (nthD [1, 2]) (oC [V.map 1] false)) ∧ (oR [1, 2] (oM (mV L) c ro) ∧ True)) ∧ (eM (del_1_0_Qb L c ro d0) [1, 2] 3 (mV L) c ro ∧ (cB (del_2_0_Qb L c ro d1) [1, 2] ([vi d1, V.ptr 1 0]) la50 (.func (.func 50) [] [V.ptr 1 0]) ([vi d1]) ((some (oC [V.map 2] false) = some (AObj.ren (nthD [1, 2]) (oC [V.map 1] false)) ∧ (oR [1, 2] (oM (mV L) c ro) ∧ True)) ∧ (eM (del_2_0_Qb L c ro d1) [1, 2] 3 (mV L) c ro ∧ (cB (del_3_0_Qb L c ro d2) [1, 2] ([vi d2, V.ptr 1 0]) la50 (.func (.func 50) [] [V.ptr 1 0]) ([vi d2]) ((some (oC [V.map 2] false) = some (AObj.ren (nthD [1, 2]) (oC [V.map 1] false)) ∧ (oR [1, 2] (oM (mV L) c ro) ∧ True)) ∧ (eM (del_3_0_Qb L c ro d2) [1, 2] 3 (mV L) c ro ∧ (rR (V.slice 0 0 3 3 1) ∧ (rR (some (oC [vi d0, vi d1, vi d2] false)) ∧ (rR (some (oC [V.map 2] false)) ∧ (rR (some (oM (mV L) c ro)) ∧ True))) ∧ True)))))))))) from
  ⟨fun m' K' h1 h2 => conInCl (u0) h1 h2, w0, rfl, rfl, ⟨rfl, ⟨kMs, trivial⟩⟩, ⟨kM, ⟨fun m' K' h1 h2 => conInCl (u1) h1 h2, w1, rfl, rfl, ⟨rfl, ⟨kMs, trivial⟩⟩, ⟨kM, ⟨fun m' K' h1 h2 => conInCl (u2) h1 h2, w2, rfl, rfl, ⟨rfl, ⟨kMs, trivial⟩⟩, ⟨kM, ⟨(by rfl), ⟨(by rfl), ⟨(by rfl), ⟨(by rfl), trivial⟩⟩⟩, trivial⟩⟩⟩⟩⟩⟩⟩)
  (by kernel_rfl) Y
noncomputable abbrev del_3_1_Qa (L : LL) (c : Nat) (ro : Bool) (d0 d1 d2 : Int) : Con := ⟨[.slice 0 0 3 3 1, .func (.func 50) [] [.ptr 1 0]], [.cells [.int .i64 d0, .int .i64 d1, .int .i64 d2] false, .cells [.map 2] false, .map (mV L) c ro], .slice 0 0 2 3 1, [.cells [.int .i64 d1, .int .i64 d2, .int .i64 0] false, .cells [.map 2] false, .map (mV L) c ro], []⟩
theorem del_3_1 (Y : Ys Prop) (L : LL) (c : Nat) (ro : Bool) (d0 d1 d2 : Int) (u0 : S50 (del_1_1_Qb L c ro d0)) (w0 : Con.wf (del_1_1_Qb L c ro d0) = true) (u1 : S50 (del_2_0_Qb L c ro d1)) (w1 : Con.wf (del_2_0_Qb L c ro d1) = true) (u2 : S50 (del_3_0_Qb L c ro d2)) (w2 : Con.wf (del_3_0_Qb L c ro d2) = true) :
   body1 pA (callD pA tbDel la50 6) Y c49 (del_3_1_Qa L c ro d0 d1 d2).args (memO (del_3_1_Qa L c ro d0 d1 d2).pre) (endC (del_3_1_Qa L c ro d0 d1 d2)) :=
  walkC_of_vc (C := (del_3_1_Qa L c ro d0 d1 d2)) (mono50) (.wait 18 (.con (del_1_1_Qb L c ro d0) [1, 2] (.fixM 2 (oM (mV L) c ro) (.wait 23 (.con (del_2_0_Qb L c ro d1) [1, 2] (.fixM 2 (oM (mV L) c ro) (.wait 25 (.con (del_3_0_Qb L c ro d2) [1, 2] (.fixM 2 (oM (mV L) c ro) .nil)))))))))
  (show (cB (del_1_1_Qb L c ro d0) [1, 2] ([vi d0, V.ptr 1 0]) la50 (.func (.func 50) [] [V.ptr 1 0]) ([vi d0]) ((some (oC [V.map 2] false) = some (AObj.ren (nthD [1, 2]) (oC [V.map 1] false)) ∧ (oR [1, 2] (oM (mV L) c ro) ∧ True)) ∧ (eM (del_1_1_Qb L c ro d0) [1, 2] 3 (mV L) c ro ∧ (cB (del_2_0_Qb L c ro d1) [1, 2] ([vi d1, V.ptr 1 0]) la50 (.func (.func 50) [] [V.ptr 1 0]) ([vi d1]) ((some (oC [V.map 2] false) = some (AObj.ren (nthD [1, 2]) (oC [V.map 1] false)) ∧ (oR [1, 2] (oM (mV L) c ro) ∧ True)) ∧ (eM (del_2_0_Qb L c ro d1) [1, 2] 3 (mV L) c ro ∧ (cB (del_3_0_Qb L c ro d2) [1, 2] ([vi d2, V.ptr 1 0]) la50 (.func (.func 50) [] [V.ptr 1 0]) ([vi d2]) ((some (oC [V.map 2] false) = some (AObj.ren (nthD [1, 2]) (oC [V.map 1] false)) ∧ (oR [1, 2] (oM (mV L) c ro) ∧ True)) ∧ (eM (del_3_0_Qb L c ro d2) [1, 2] 3 (mV L) c ro ∧ (rR (V.slice 0 0 2 3 1) ∧ (some (oC [vi d1, vi d2, vi (Int.ofNat 0)] false) = some (oC [vi d1, vi d2, vi 0] false) ∧ (rR (some (oC [V.map 2] false)) ∧ (rR (some (oM (mV L) c ro)) ∧ True))) ∧ True)))))))))) from
  ⟨fun m' K' h1 h2 => conInCl (u0) h1 h2, w0, rfl, rfl, ⟨rfl, ⟨kMs, trivial⟩⟩, ⟨kM, ⟨fun m' K' h1 h2 => conInCl (u1) h1 h2, w1, rfl, rfl, ⟨rfl, ⟨kMs, trivial⟩⟩, ⟨kM, ⟨fun m' K' h1 h2 => conInCl (u2) h1 h2, w2, rfl, rfl, ⟨rfl, ⟨kMs, trivial⟩⟩, ⟨kM, ⟨(by rfl), ⟨(by rfl), ⟨(by rfl), ⟨(by rfl), trivial⟩⟩⟩, trivial⟩⟩⟩⟩⟩⟩⟩)
  (by kernel_rfl) Y
noncomputable abbrev del_3_2_Qa (L : LL) (c : Nat) (ro : Bool) (d0 d1 d2 : Int) : Con := ⟨[.slice 0 0 3 3 1, .func (.func 50) [] [.ptr 1 0]], [.cells [.int .i64 d0, .int .i64 d1, .int .i64 d2] false, .cells [.map 2] false, .map (mV L) c ro], .slice 0 0 2 3 1, [.cells [.int .i64 d0, .int .i64 d2, .int .i64 0] false, .cells [.map 2] false, .map (mV L) c ro], []⟩
theorem del_3_2 (Y : Ys Prop) (L : LL) (c : Nat) (ro : Bool) (d0 d1 d2 : Int) (u0 : S50 (del_1_0_Qb L c ro d0)) (w0 : Con.wf (del_1_0_Qb L c ro d0) = true) (u1 : S50 (del_2_2_Qb L c ro d1)) (w1 : Con.wf (del_2_2_Qb L c ro d1) = true) (u2 : S50 (del_3_0_Qb L c ro d2)) (w2 : Con.wf (del_3_0_Qb L c ro d2) = true) :
   body1 pA (callD pA tbDel la50 6) Y c49 (del_3_2_Qa L c ro d0 d1 d2).args (memO (del_3_2_Qa L c ro d0 d1 d2).pre) (endC (del_3_2_Qa L c ro d0 d1 d2)) :=
  walkC_of_vc (C := (del_3_2_Qa L c ro d0 d1 d2)) (mono50) (.wait 18 (.con (del_1_0_Qb L c ro d0) [1, 2] (.fixM 2 (oM (mV L) c ro) (.wait 12 (.con (del_2_2_Qb L c ro d1) [1, 2] (.fixM 2 (oM (mV L) c ro) (.wait 23 (.con (del_3_0_Qb L c ro d2) [1, 2] (.fixM 2 (oM (mV L) c ro) .nil)))))))))
  (show (cB (del_1_0_Qb L c ro d0) [1, 2] ([vi d0, V.ptr 1 0]) la50 (.func (.func 50) [] [V.ptr 1 0]) ([vi d0]) ((some (oC [V.map 2] false) = some (AObj.ren (nthD [1, 2]) (oC [V.map 1] false)) ∧ (oR [1, 2] (oM (mV L) c ro) ∧ True)) ∧ (eM (del_1_0_Qb L c ro d0) [1, 2] 3 (mV L) c ro ∧ (cB (del_2_2_Qb L c ro d1) [1, 2] ([vi d1, V.ptr 1 0]) la50 (.func (.func 50) [] [V.ptr 1 0]) ([vi d1]) ((some (oC [V.map 2] false) = some (AObj.ren (nthD [1, 2]) (oC [V.map 1] false)) ∧ (oR [1, 2] (oM (mV L) c ro) ∧ True)) ∧ (eM (del_2_2_Qb L c ro d1) [1, 2] 3 (mV L) c ro ∧ (cB (del_3_0_Qb L c ro d2) [1, 2] ([vi d2, V.ptr 1 0]) la50 (.func (.func 50) [] [V.ptr 1 0]) ([vi d2]) ((some (oC [V.map 2] false) = some (AObj.ren (nthD [1, 2]) (oC [V.map 1] false)) ∧ (oR [1, 2] (oM (mV L) c ro) ∧ True)) ∧ (eM (del_3_0_Qb L c ro d2) [1, 2] 3 (mV L) c ro ∧ (rR (V.slice 0 0 2 3 1) ∧ (some (oC [vi d0, vi d2, vi (Int.ofNat 0)] false) = some (oC [vi d0, vi d2, vi 0] false) ∧ (rR (some (oC [V.map 2] false)) ∧ (rR (some (oM (mV L) c ro)) ∧ True))) ∧ True)))))))))) from
  ⟨fun m' K' h1 h2 => conInCl (u0) h1 h2, w0, rfl, rfl, ⟨rfl, ⟨kMs, trivial⟩⟩, ⟨kM, ⟨fun m' K' h1 h2 => conInCl (u1) h1 h2, w1, rfl, rfl, ⟨rfl, ⟨kMs, trivial⟩⟩, ⟨kM, ⟨fun m' K' h1 h2 => conInCl (u2) h1 h2, w2, rfl, rfl, ⟨rfl, ⟨kMs, trivial⟩⟩, ⟨kM, ⟨(by rfl), ⟨(by rfl), ⟨(by rfl), ⟨(by rfl), trivial⟩⟩⟩, trivial⟩⟩⟩⟩⟩⟩⟩)
  (by kernel_rfl) Y
noncomputable abbrev del_3_3_Qa (L : LL) (c : Nat) (ro : Bool) (d0 d1 d2 : Int) : Con := ⟨[.slice 0 0 3 3 1, .func (.func 50) [] [.ptr 1 0]], [.cells [.int .i64 d0, .int .i64 d1, .int .i64 d2] false, .cells [.map 2] false, .map (mV L) c ro], .slice 0 0 1 3 1, [.cells [.int .i64 d2, .int .i64 0, .int .i64 0] false, .cells [.map 2] false, .map (mV L) c ro], []⟩
theorem del_3_3 (Y : Ys Prop) (L : LL) (c : Nat) (ro : Bool) (d0 d1 d2 : Int) (u0 : S50 (del_1_1_Qb L c ro d0)) (w0 : Con.wf (del_1_1_Qb L c ro d0) = true) (u1 : S50 (del_2_2_Qb L c ro d1)) (w1 : Con.wf (del_2_2_Qb L c ro d1) = true) (u2 : S50 (del_3_0_Qb L c ro d2)) (w2 : Con.wf (del_3_0_Qb L c ro d2) = true) :
   body1 pA (callD pA tbDel la50 6) Y c49 (del_3_3_Qa L c ro d0 d1 d2).args (memO (del_3_3_Qa L c ro d0 d1 d2).pre) (endC (del_3_3_Qa L c ro d0 d1 d2)) :=
  walkC_of_vc (C := (del_3_3_Qa L c ro d0 d1 d2)) (mono50) (.wait 18 (.con (del_1_1_Qb L c ro d0) [1, 2] (.fixM 2 (oM (mV L) c ro) (.wait 23 (.con (del_2_2_Qb L c ro d1) [1, 2] (.fixM 2 (oM (mV L) c ro) (.wait 17 (.con (del_3_0_Qb L c ro d2) [1, 2] (.fixM 2 (oM (mV L) c ro) .nil)))))))))
  (show (cB (del_1_1_Qb L c ro d0) [1, 2] ([vi d0, V.ptr 1 0]) la50 (.func (.func 50) [] [V.ptr 1 0]) ([vi d0]) ((some (oC [V.map 2] false) = some (AObj.ren (nthD [1, 2]) (oC [V.map 1] false)) ∧ (oR [1, 2] (oM (mV L) c ro) ∧ True)) ∧ (eM (del_1_1_Qb L c ro d0) [1, 2] 3 (mV L) c ro ∧ (cB (del_2_2_Qb L c ro d1) [1, 2] ([vi d1, V.ptr 1 0]) la50 (.func (.func 50) [] [V.ptr 1 0]) ([vi d1]) ((some (oC [V.map 2] false) = some (AObj.ren (nthD [1, 2]) (oC [V.map 1] false)) ∧ (oR [1, 2] (oM (mV L) c ro) ∧ True)) ∧ (eM (del_2_2_Qb L c ro d1) [1, 2] 3 (mV L) c ro ∧ (cB (del_3_0_Qb L c ro d2) [1, 2] ([vi d2, V.ptr 1 0]) la50 (.func (.func 50) [] [V.ptr 1 0]) ([vi d2]) ((some (oC [V.map 2] false) = some (AObj.ren (nthD [1, 2]) (oC [V.map 1] false)) ∧ (oR [1, 2] (oM (mV L) c ro) ∧ True)) ∧ (eM (del_3_0_Qb L c ro d2) [1, 2] 3 (mV L) c ro ∧ (rR (V.slice 0 0 1 3 1) ∧ (some (oC [vi d2, vi (Int.ofNat 0), vi (Int.ofNat 0)] false) = some (oC [vi d2, vi 0, vi 0] false) ∧ (rR (some (oC [V.map 2] false)) ∧ (rR (some (oM (mV L) c ro)) ∧ True))) ∧ True)))))))))) from
  ⟨fun m' K' h1 h2 => conInCl (u0) h1 h2, w0, rfl, rfl, ⟨rfl, ⟨kMs, trivial⟩⟩, ⟨kM, ⟨fun m' K' h1 h2 => conInCl (u1) h1 h2, w1, rfl, rfl, ⟨rfl, ⟨kMs, trivial⟩⟩, ⟨kM, ⟨fun m' K' h1 h2 => conInCl (u2) h1 h2, w2, rfl, rfl, ⟨rfl, ⟨kMs, trivial⟩⟩, ⟨kM, ⟨(by rfl), ⟨(by rfl), ⟨(by rfl), ⟨(by rfl), trivial⟩⟩⟩, trivial⟩⟩⟩⟩⟩⟩⟩)
  (by kernel_rfl) Y
noncomputable abbrev del_3_4_Qa (L : LL) (c : Nat) (ro : Bool) (d0 d1 d2 : Int) : Con := ⟨[.slice 0 0 3 3 1, .func (.func 50) [] [.ptr 1 0]], [.cells [.int .i64 d0, .int .i64 d1, .int .i64 d2] false, .cells [.map 2] false, .map (mV L) c ro], .slice 0 0 2 3 1, [.cells [.int .i64 d0, .int .i64 d1, .int .i64 0] false, .cells [.map 2] false, .map (mV L) c ro], []⟩
noncomputable abbrev del_3_4_Qb (L : LL) (c : Nat) (ro : Bool) (d2 : Int) : Con := { args := [vi d2, V.ptr 0 0], pre := [oC [V.map 1] false, oM (mV L) c ro], ans := vb true, old := [oC [V.map 1] false, oM (mV L) c ro], new := [] }
theorem del_3_4 (Y : Ys Prop) (L : LL) (c : Nat) (ro : Bool) (d0 d1 d2 : Int) (u0 : S50 (del_1_0_Qb L c ro d0)) (w0 : Con.wf (del_1_0_Qb L c ro d0) = true) (u1 : S50 (del_2_0_Qb L c ro d1)) (w1 : Con.wf (del_2_0_Qb L c ro d1) = true) (u2 : S50 (del_3_4_Qb L c ro d2)) (w2 : Con.wf (del_3_4_Qb L c ro d2) = true) :
   body1 pA (callD pA tbDel la50 6) Y c49 (del_3_4_Qa L c ro d0 d1 d2).args (memO (del_3_4_Qa L c ro d0 d1 d2).pre) (endC (del_3_4_Qa L c ro d0 d1 d2)) :=
  walkC_of_vc (C := (del_3_4_Qa L c ro d0 d1 d2)) (mono50) (.wait 18 (.con (del_1_0_Qb L c ro d0) [1, 2] (.fixM 2 (oM (mV L) c ro) (.wait 12 (.con (del_2_0_Qb L c ro d1) [1, 2] (.fixM 2 (oM (mV L) c ro) (.wait 12 (.con (del_3_4_Qb L c ro d2) [1, 2] (.fixM 2 (oM (mV L) c ro) .nil)))))))))
  (show (cB (del_1_0_Qb L c ro d0) [1, 2] ([vi d0, V.ptr 1 0]) la50 (.func (.func 50) [] [V.ptr 1 0]) ([vi d0]) ((some (oC [V.map 2] false) = some (AObj.ren (nthD [1, 2]) (oC [V.map 1] false)) ∧ (oR [1, 2] (oM (mV L) c ro) ∧ True)) ∧ (eM (del_1_0_Qb L c ro d0) [1, 2] 3 (mV L) c ro ∧ (cB (del_2_0_Qb L c ro d1) [1, 2] ([vi d1, V.ptr 1 0]) la50 (.func (.func 50) [] [V.ptr 1 0]) ([vi d1]) ((some (oC [V.map 2] false) = some (AObj.ren (nthD [1, 2]) (oC [V.map 1] false)) ∧ (oR [1, 2] (oM (mV L) c ro) ∧ True)) ∧ (eM (del_2_0_Qb L c ro d1) [1, 2] 3 (mV L) c ro ∧ (cB (del_3_4_Qb L c ro d2) [1, 2] ([vi d2, V.ptr 1 0]) la50 (.func (.func 50) [] [V.ptr 1 0]) ([vi d2]) ((some (oC [V.map 2] false) = some (AObj.ren (nthD [1, 2]) (oC [V.map 1] false)) ∧ (oR [1, 2] (oM (mV L) c ro) ∧ True)) ∧ (eM (del_3_4_Qb L c ro d2) [1, 2] 3 (mV L) c ro ∧ (rR (V.slice 0 0 2 3 1) ∧ (some (oC [vi d0, vi d1, vi (Int.ofNat 0)] false) = some (oC [vi d0, vi d1, vi 0] false) ∧ (rR (some (oC [V.map 2] false)) ∧ (rR (some (oM (mV L) c ro)) ∧ True))) ∧ True)))))))))) from
  ⟨fun m' K' h1 h2 => conInCl (u0) h1 h2, w0, rfl, rfl, ⟨rfl, ⟨kMs, trivial⟩⟩, ⟨kM, ⟨fun m' K' h1 h2 => conInCl (u1) h1 h2, w1, rfl, rfl, ⟨rfl, ⟨kMs, trivial⟩⟩, ⟨kM, ⟨fun m' K' h1 h2 => conInCl (u2) h1 h2, w2, rfl, rfl, ⟨rfl, ⟨kMs, trivial⟩⟩, ⟨kM, ⟨(by rfl), ⟨(by rfl), ⟨(by rfl), ⟨(by rfl), trivial⟩⟩⟩, trivial⟩⟩⟩⟩⟩⟩⟩)
  (by kernel_rfl) Y
noncomputable abbrev del_3_5_Qa (L : LL) (c : Nat) (ro : Bool) (d0 d1 d2 : Int) : Con := ⟨[.slice 0 0 3 3 1, .func (.func 50) [] [.ptr 1 0]], [.cells [.int .i64 d0, .int .i64 d1, .int .i64 d2] false, .cells [.map 2] false, .map (mV L) c ro], .slice 0 0 1 3 1, [.cells [.int .i64 d1, .int .i64 0, .int .i64 0] false, .cells [.map 2] false, .map (mV L) c ro], []⟩
theorem del_3_5 (Y : Ys Prop) (L : LL) (c : Nat) (ro : Bool) (d0 d1 d2 : Int) (u0 : S50 (del_1_1_Qb L c ro d0)) (w0 : Con.wf (del_1_1_Qb L c ro d0) = true) (u1 : S50 (del_2_0_Qb L c ro d1)) (w1 : Con.wf (del_2_0_Qb L c ro d1) = true) (u2 : S50 (del_3_4_Qb L c ro d2)) (w2 : Con.wf (del_3_4_Qb L c ro d2) = true) :
   body1 pA (callD pA tbDel la50 6) Y c49 (del_3_5_Qa L c ro d0 d1 d2).args (memO (del_3_5_Qa L c ro d0 d1 d2).pre) (endC (del_3_5_Qa L c ro d0 d1 d2)) :=
  walkC_of_vc (C := (del_3_5_Qa L c ro d0 d1 d2)) (mono50) (.wait 18 (.con (del_1_1_Qb L c ro d0) [1, 2] (.fixM 2 (oM (mV L) c ro) (.wait 23 (.con (del_2_0_Qb L c ro d1) [1, 2] (.fixM 2 (oM (mV L) c ro) (.wait 25 (.con (del_3_4_Qb L c ro d2) [1, 2] (.fixM 2 (oM (mV L) c ro) .nil)))))))))
  (show (cB (del_1_1_Qb L c ro d0) [1, 2] ([vi d0, V.ptr 1 0]) la50 (.func (.func 50) [] [V.ptr 1 0]) ([vi d0]) ((some (oC [V.map 2] false) = some (AObj.ren (nthD [1, 2]) (oC [V.map 1] false)) ∧ (oR [1, 2] (oM (mV L) c ro) ∧ True)) ∧ (eM (del_1_1_Qb L c ro d0) [1, 2] 3 (mV L) c ro ∧ (cB (del_2_0_Qb L c ro d1) [1, 2] ([vi d1, V.ptr 1 0]) la50 (.func (.func 50) [] [V.ptr 1 0]) ([vi d1]) ((some (oC [V.map 2] false) = some (AObj.ren (nthD [1, 2]) (oC [V.map 1] false)) ∧ (oR [1, 2] (oM (mV L) c ro) ∧ True)) ∧ (eM (del_2_0_Qb L c ro d1) [1, 2] 3 (mV L) c ro ∧ (cB (del_3_4_Qb L c ro d2) [1, 2] ([vi d2, V.ptr 1 0]) la50 (.func (.func 50) [] [V.ptr 1 0]) ([vi d2]) ((some (oC [V.map 2] false) = some (AObj.ren (nthD [1, 2]) (oC [V.map 1] false)) ∧ (oR [1, 2] (oM (mV L) c ro) ∧ True)) ∧ (eM (del_3_4_Qb L c ro d2) [1, 2] 3 (mV L) c ro ∧ (rR (V.slice 0 0 1 3 1) ∧ (some (oC [vi d1, vi (Int.ofNat 0), vi (Int.ofNat 0)] false) = some (oC [vi d1, vi 0, vi 0] false) ∧ (rR (some (oC [V.map 2] false)) ∧ (rR (some (oM (mV L) c ro)) ∧ True))) ∧ True)))))))))) from
  ⟨fun m' K' h1 h2 => conInCl (u0) h1 h2, w0, rfl, rfl, ⟨rfl, ⟨kMs, trivial⟩⟩, ⟨kM, ⟨fun m' K' h1 h2 => conInCl (u1) h1 h2, w1, rfl, rfl, ⟨rfl, ⟨kMs, trivial⟩⟩, ⟨kM, ⟨fun m' K' h1 h2 => conInCl (u2) h1 h2, w2, rfl, rfl, ⟨rfl, ⟨kMs, trivial⟩⟩, ⟨kM, ⟨(by rfl), ⟨(by rfl), ⟨(by rfl), ⟨(by rfl), trivial⟩⟩⟩, trivial⟩⟩⟩⟩⟩⟩⟩)
  (by kernel_rfl) Y
noncomputable abbrev del_3_6_Qa (L : LL) (c : Nat) (ro : Bool) (d0 d1 d2 : Int) : Con := ⟨[.slice 0 0 3 3 1, .func (.func 50) [] [.ptr 1 0]], [.cells [.int .i64 d0, .int .i64 d1, .int .i64 d2] false, .cells [.map 2] false, .map (mV L) c ro], .slice 0 0 1 3 1, [.cells [.int .i64 d0, .int .i64 0, .int .i64 0] false, .cells [.map 2] false, .map (mV L) c ro], []⟩
theorem del_3_6 (Y : Ys Prop) (L : LL) (c : Nat) (ro : Bool) (d0 d1 d2 : Int) (u0 : S50 (del_1_0_Qb L c ro d0)) (w0 : Con.wf (del_1_0_Qb L c ro d0) = true) (u1 : S50 (del_2_2_Qb L c ro d1)) (w1 : Con.wf (del_2_2_Qb L c ro d1) = true) (u2 : S50 (del_3_4_Qb L c ro d2)) (w2 : Con.wf (del_3_4_Qb L c ro d2) = true) :
   body1 pA (callD pA tbDel la50 6) Y c49 (del_3_6_Qa L c ro d0 d1 d2).args (memO (del_3_6_Qa L c ro d0 d1 d2).pre) (endC (del_3_6_Qa L c ro d0 d1 d2)) :=
  walkC_of_vc (C := (del_3_6_Qa L c ro d0 d1 d2)) (mono50) (.wait 18 (.con (del_1_0_Qb L c ro d0) [1, 2] (.fixM 2 (oM (mV L) c ro) (.wait 12 (.con (del_2_2_Qb L c ro d1) [1, 2] (.fixM 2 (oM (mV L) c ro) (.wait 23 (.con (del_3_4_Qb L c ro d2) [1, 2] (.fixM 2 (oM (mV L) c ro) .nil)))))))))
  (show (cB (del_1_0_Qb L c ro d0) [1, 2] ([vi d0, V.ptr 1 0]) la50 (.func (.func 50) [] [V.ptr 1 0]) ([vi d0]) ((some (oC [V.map 2] false) = some (AObj.ren (nthD [1, 2]) (oC [V.map 1] false)) ∧ (oR [1, 2] (oM (mV L) c ro) ∧ True)) ∧ (eM (del_1_0_Qb L c ro d0) [1, 2] 3 (mV L) c ro ∧ (cB (del_2_2_Qb L c ro d1) [1, 2] ([vi d1, V.ptr 1 0]) la50 (.func (.func 50) [] [V.ptr 1 0]) ([vi d1]) ((some (oC [V.map 2] false) = some (AObj.ren (nthD [1, 2]) (oC [V.map 1] false)) ∧ (oR [1, 2] (oM (mV L) c ro) ∧ True)) ∧ (eM (del_2_2_Qb L c ro d1) [1, 2] 3 (mV L) c ro ∧ (cB (del_3_4_Qb L c ro d2) [1, 2] ([vi d2, V.ptr 1 0]) la50 (.func (.func 50) [] [V.ptr 1 0]) ([vi d2]) ((some (oC [V.map 2] false) = some (AObj.ren (nthD [1, 2]) (oC [V.map 1] false)) ∧ (oR [1, 2] (oM (mV L) c ro) ∧ True)) ∧ (eM (del_3_4_Qb L c ro d2) [1, 2] 3 (mV L) c ro ∧ (rR (V.slice 0 0 1 3 1) ∧ (some (oC [vi d0, vi (Int.ofNat 0), vi (Int.ofNat 0)] false) = some (oC [vi d0, vi 0, vi 0] false) ∧ (rR (some (oC [V.map 2] false)) ∧ (rR (some (oM (mV L) c ro)) ∧ True))) ∧ True)))))))))) from
  ⟨fun m' K' h1 h2 => conInCl (u0) h1 h2, w0, rfl, rfl, ⟨rfl, ⟨kMs, trivial⟩⟩, ⟨kM, ⟨fun m' K' h1 h2 => conInCl (u1) h1 h2, w1, rfl, rfl, ⟨rfl, ⟨kMs, trivial⟩⟩, ⟨kM, ⟨fun m' K' h1 h2 => conInCl (u2) h1 h2, w2, rfl, rfl, ⟨rfl, ⟨kMs, trivial⟩⟩, ⟨kM, ⟨(by rfl), ⟨(by rfl), ⟨(by rfl), ⟨(by rfl), trivial⟩⟩⟩, trivial⟩⟩⟩⟩⟩⟩⟩)
  (by kernel_rfl) Y
noncomputable abbrev del_3_7_Qa (L : LL) (c : Nat) (ro : Bool) (d0 d1 d2 : Int) : Con := ⟨[.slice 0 0 3 3 1, .func (.func 50) [] [.ptr 1 0]], [.cells [.int .i64 d0, .int .i64 d1, .int .i64 d2] false, .cells [.map 2] false, .map (mV L) c ro], .slice 0 0 0 3 1, [.cells [.int .i64 0, .int .i64 0, .int .i64 0] false, .cells [.map 2] false, .map (mV L) c ro], []⟩
theorem del_3_7 (Y : Ys Prop) (L : LL) (c : Nat) (ro : Bool) (d0 d1 d2 : Int) (u0 : S50 (del_1_1_Qb L c ro d0)) (w0 : Con.wf (del_1_1_Qb L c ro d0) = true) (u1 : S50 (del_2_2_Qb L c ro d1)) (w1 : Con.wf (del_2_2_Qb L c ro d1) = true) (u2 : S50 (del_3_4_Qb L c ro d2)) (w2 : Con.wf (del_3_4_Qb L c ro d2) = true) :
   body1 pA (callD pA tbDel la50 6) Y c49 (del_3_7_Qa L c ro d0 d1 d2).args (memO (del_3_7_Qa L c ro d0 d1 d2).pre) (endC (del_3_7_Qa L c ro d0 d1 d2)) :=
  walkC_of_vc (C := (del_3_7_Qa L c ro d0 d1 d2)) (mono50) (.wait 18 (.con (del_1_1_Qb L c ro d0) [1, 2] (.fixM 2 (oM (mV L) c ro) (.wait 23 (.con (del_2_2_Qb L c ro d1) [1, 2] (.fixM 2 (oM (mV L) c ro) (.wait 17 (.con (del_3_4_Qb L c ro d2) [1, 2] (.fixM 2 (oM (mV L) c ro) .nil)))))))))
  (show (cB (del_1_1_Qb L c ro d0) [1, 2] ([vi d0, V.ptr 1 0]) la50 (.func (.func 50) [] [V.ptr 1 0]) ([vi d0]) ((some (oC [V.map 2] false) = some (AObj.ren (nthD [1, 2]) (oC [V.map 1] false)) ∧ (oR [1, 2] (oM (mV L) c ro) ∧ True)) ∧ (eM (del_1_1_Qb L c ro d0) [1, 2] 3 (mV L) c ro ∧ (cB (del_2_2_Qb L c ro d1) [1, 2] ([vi d1, V.ptr 1 0]) la50 (.func (.func 50) [] [V.ptr 1 0]) ([vi d1]) ((some (oC [V.map 2] false) = some (AObj.ren (nthD [1, 2]) (oC [V.map 1] false)) ∧ (oR [1, 2] (oM (mV L) c ro) ∧ True)) ∧ (eM (del_2_2_Qb L c ro d1) [1, 2] 3 (mV L) c ro ∧ (cB (del_3_4_Qb L c ro d2) [1, 2] ([vi d2, V.ptr 1 0]) la50 (.func (.func 50) [] [V.ptr 1 0]) ([vi d2]) ((some (oC [V.map 2] false) = some (AObj.ren (nthD [1, 2]) (oC [V.map 1] false)) ∧ (oR [1, 2] (oM (mV L) c ro) ∧ True)) ∧ (eM (del_3_4_Qb L c ro d2) [1, 2] 3 (mV L) c ro ∧ (rR (V.slice 0 0 0 3 1) ∧ (some (oC [vi (Int.ofNat 0), vi (Int.ofNat 0), vi (Int.ofNat 0)] false) = some (oC [vi 0, vi 0, vi 0] false) ∧ (rR (some (oC [V.map 2] false)) ∧ (rR (some (oM (mV L) c ro)) ∧ True))) ∧ True)))))))))) from
  ⟨fun m' K' h1 h2 => conInCl (u0) h1 h2, w0, rfl, rfl, ⟨rfl, ⟨kMs, trivial⟩⟩, ⟨kM, ⟨fun m' K' h1 h2 => conInCl (u1) h1 h2, w1, rfl, rfl, ⟨rfl, ⟨kMs, trivial⟩⟩, ⟨kM, ⟨fun m' K' h1 h2 => conInCl (u2) h1 h2, w2, rfl, rfl, ⟨rfl, ⟨kMs, trivial⟩⟩, ⟨kM, ⟨(by rfl), ⟨(by rfl), ⟨(by rfl), ⟨(by rfl), trivial⟩⟩⟩, trivial⟩⟩⟩⟩⟩⟩⟩)
  (by kernel_rfl) Y
noncomputable abbrev has_1_0_Qa (x d0 : Int) : Con := ⟨[.slice 0 0 1 1 1, .int .i64 x], [.cells [.int .i64 d0] false], .bool true, [.cells [.int .i64 d0] false], []⟩
theorem has_1_0_o0 (x : Int) (d0 : Int) (e : x = d0) : x = d0 := by omega
theorem has_1_0 (Y : Ys Prop) (x d0 : Int)  (e : x = d0) :
   body1 pA (callD pA tbIx la0 5) Y c31 (has_1_0_Qa x d0).args (memO (has_1_0_Qa x d0).pre) (endC (has_1_0_Qa x d0)) :=
  walkC_of_vc (C := (has_1_0_Qa x d0)) (mono_false) (.wait 19 (.fix s16 (vb true) .nil))
  (show (vb (eqI x d0) = vb true ∧ vb true = vb true ∧ (rR (some (oC [vi d0] false)) ∧ True) ∧ True) from
  ⟨cb (eqT rfl rfl (has_1_0_o0 x d0 e)), (by rfl), ⟨(by rfl), trivial⟩, trivial⟩)
  (by kernel_rfl) Y
noncomputable abbrev has_1_n_Qa (x d0 : Int) : Con := ⟨[.slice 0 0 1 1 1, .int .i64 x], [.cells [.int .i64 d0] false], .bool false, [.cells [.int .i64 d0] false], []⟩
theorem has_1_n_o0 (x : Int) (d0 : Int) (n0 : x ≠ d0) : ¬x = d0 := by omega
theorem has_1_n (Y : Ys Prop) (x d0 : Int) (n0 : x ≠ d0) :
   body1 pA (callD pA tbIx la0 5) Y c31 (has_1_n_Qa x d0).args (memO (has_1_n_Qa x d0).pre) (endC (has_1_n_Qa x d0)) :=
  walkC_of_vc (C := (has_1_n_Qa x d0)) (mono_false) (.wait 19 (.fix s16 (vb false) .nil))
  (show (vb (eqI x d0) = vb false ∧ vb false = vb false ∧ (rR (some (oC [vi d0] false)) ∧ True) ∧ True) from
  ⟨cb (eqF rfl rfl (has_1_n_o0 x d0 n0)), (by rfl), ⟨(by rfl), trivial⟩, trivial⟩)
  (by kernel_rfl) Y
noncomputable abbrev has_2_0_Qa (x d0 d1 : Int) : Con := ⟨[.slice 0 0 2 2 1, .int .i64 x], [.cells [.int .i64 d0, .int .i64 d1] false], .bool true, [.cells [.int .i64 d0, .int .i64 d1] false], []⟩
theorem has_2_0 (Y : Ys Prop) (x d0 d1 : Int)  (e : x = d0) :
   body1 pA (callD pA tbIx la0 5) Y c31 (has_2_0_Qa x d0 d1).args (memO (has_2_0_Qa x d0 d1).pre) (endC (has_2_0_Qa x d0 d1)) :=
  walkC_of_vc (C := (has_2_0_Qa x d0 d1)) (mono_false) (.wait 19 (.fix s16 (vb true) .nil))
  (show (vb (eqI x d0) = vb true ∧ vb true = vb true ∧ (rR (some (oC [vi d0, vi d1] false)) ∧ True) ∧ True) from
  ⟨cb (eqT rfl rfl (has_1_0_o0 x d0 e)), (by rfl), ⟨(by rfl), trivial⟩, trivial⟩)
  (by kernel_rfl) Y
theorem has_2_1_o1 (x : Int) (d1 : Int) (e : x = d1) : x = d1 := by omega
theorem has_2_1 (Y : Ys Prop) (x d0 d1 : Int) (n0 : x ≠ d0) (e : x = d1) :
   body1 pA (callD pA tbIx la0 5) Y c31 (has_2_0_Qa x d0 d1).args (memO (has_2_0_Qa x d0 d1).pre) (endC (has_2_0_Qa x d0 d1)) :=
  walkC_of_vc (C := (has_2_0_Qa x d0 d1)) (mono_false) (.wait 19 (.fix s16 (vb false) (.wait 13 (.fix s16 (vb true) .nil))))
  (show (vb (eqI x d0) = vb false ∧ vb (eqI x d1) = vb true ∧ vb true = vb true ∧ (rR (some (oC [vi d0, vi d1] false)) ∧ True) ∧ True) from
  ⟨cb (eqF rfl rfl (has_1_n_o0 x d0 n0)), cb (eqT rfl rfl (has_2_1_o1 x d1 e)), (by rfl), ⟨(by rfl), trivial⟩, trivial⟩)
  (by kernel_rfl) Y
noncomputable abbrev has_2_n_Qa (x d0 d1 : Int) : Con := ⟨[.slice 0 0 2 2 1, .int .i64 x], [.cells [.int .i64 d0, .int .i64 d1] false], .bool false, [.cells [.int .i64 d0, .int .i64 d1] false], []⟩
theorem has_2_n_o1 (x : Int) (d1 : Int) (n1 : x ≠ d1) : ¬x = d1 := by omega
theorem has_2_n (Y : Ys Prop) (x d0 d1 : Int) (n0 : x ≠ d0) (n1 : x ≠ d1) :
   body1 pA (callD pA tbIx la0 5) Y c31 (has_2_n_Qa x d0 d1).args (memO (has_2_n_Qa x d0 d1).pre) (endC (has_2_n_Qa x d0 d1)) :=
  walkC_of_vc (C := (has_2_n_Qa x d0 d1)) (mono_false) (.wait 19 (.fix s16 (vb false) (.wait 13 (.fix s16 (vb false) .nil))))
  (show (vb (eqI x d0) = vb false ∧ vb (eqI x d1) = vb false ∧ vb false = vb false ∧ (rR (some (oC [vi d0, vi d1] false)) ∧ True) ∧ True) from
  ⟨cb (eqF rfl rfl (has_1_n_o0 x d0 n0)), cb (eqF rfl rfl (has_2_n_o1 x d1 n1)), (by rfl), ⟨(by rfl), trivial⟩, trivial⟩)
  (by kernel_rfl) Y
noncomputable abbrev has_3_0_Qa (x d0 d1 d2 : Int) : Con := ⟨[.slice 0 0 3 3 1, .int .i64 x], [.cells [.int .i64 d0, .int .i64 d1, .int .i64 d2] false], .bool true, [.cells [.int .i64 d0, .int .i64 d1, .int .i64 d2] false], []⟩
theorem has_3_0 (Y : Ys Prop) (x d0 d1 d2 : Int)  (e : x = d0) :
   body1 pA (callD pA tbIx la0 5) Y c31 (has_3_0_Qa x d0 d1 d2).args (memO (has_3_0_Qa x d0 d1 d2).pre) (endC (has_3_0_Qa x d0 d1 d2)) :=
  walkC_of_vc (C := (has_3_0_Qa x d0 d1 d2)) (mono_false) (.wait 19 (.fix s16 (vb true) .nil))
  (show (vb (eqI x d0) = vb true ∧ vb true = vb true ∧ (rR (some (oC [vi d0, vi d1, vi d2] false)) ∧ True) ∧ True) from
  ⟨cb (eqT rfl rfl (has_1_0_o0 x d0 e)), (by rfl), ⟨(by rfl), trivial⟩, trivial⟩)
  (by kernel_rfl) Y
theorem has_3_1 (Y : Ys Prop) (x d0 d1 d2 : Int) (n0 : x ≠ d0) (e : x = d1) :
   body1 pA (callD pA tbIx la0 5) Y c31 (has_3_0_Qa x d0 d1 d2).args (memO (has_3_0_Qa x d0 d1 d2).pre) (endC (has_3_0_Qa x d0 d1 d2)) :=
  walkC_of_vc (C := (has_3_0_Qa x d0 d1 d2)) (mono_false) (.wait 19 (.fix s16 (vb false) (.wait 13 (.fix s16 (vb true) .nil))))
  (show (vb (eqI x d0) = vb false ∧ vb (eqI x d1) = vb true ∧ vb true = vb true ∧ (rR (some (oC [vi d0, vi d1, vi d2] false)) ∧ True) ∧ True) from
  ⟨cb (eqF rfl rfl (has_1_n_o0 x d0 n0)), cb (eqT rfl rfl (has_2_1_o1 x d1 e)), (by rfl), ⟨(by rfl), trivial⟩, trivial⟩)
  (by kernel_rfl) Y
theorem has_3_2_o2 (x : Int) (d2 : Int) (e : x = d2) : x = d2 := by omega
theorem has_3_2 (Y : Ys Prop) (x d0 d1 d2 : Int) (n0 : x ≠ d0) (n1 : x ≠ d1) (e : x = d2) :
   body1 pA (callD pA tbIx la0 5) Y c31 (has_3_0_Qa x d0 d1 d2).args (memO (has_3_0_Qa x d0 d1 d2).pre) (endC (has_3_0_Qa x d0 d1 d2)) :=
  walkC_of_vc (C := (has_3_0_Qa x d0 d1 d2)) (mono_false) (.wait 19 (.fix s16 (vb false) (.wait 13 (.fix s16 (vb false) (.wait 13 (.fix s16 (vb true) .nil))))))
  (show (vb (eqI x d0) = vb false ∧ vb (eqI x d1) = vb false ∧ vb (eqI x d2) = vb true ∧ vb true = vb true ∧ (rR (some (oC [vi d0, vi d1, vi d2] false)) ∧ True) ∧ True) from
  ⟨cb (eqF rfl rfl (has_1_n_o0 x d0 n0)), cb (eqF rfl rfl (has_2_n_o1 x d1 n1)), cb (eqT rfl rfl (has_3_2_o2 x d2 e)), (by rfl), ⟨(by rfl), trivial⟩, trivial⟩)
  (by kernel_rfl) Y
noncomputable abbrev has_3_n_Qa (x d0 d1 d2 : Int) : Con := ⟨[.slice 0 0 3 3 1, .int .i64 x], [.cells [.int .i64 d0, .int .i64 d1, .int .i64 d2] false], .bool false, [.cells [.int .i64 d0, .int .i64 d1, .int .i64 d2] false], []⟩
theorem has_3_n_o2 (x : Int) (d2 : Int) (n2 : x ≠ d2) : ¬x = d2 := by omega
theorem has_3_n (Y : Ys Prop) (x d0 d1 d2 : Int) (n0 : x ≠ d0) (n1 : x ≠ d1) (n2 : x ≠ d2) :
   body1 pA (callD pA tbIx la0 5) Y c31 (has_3_n_Qa x d0 d1 d2).args (memO (has_3_n_Qa x d0 d1 d2).pre) (endC (has_3_n_Qa x d0 d1 d2)) :=
  walkC_of_vc (C := (has_3_n_Qa x d0 d1 d2)) (mono_false) (.wait 19 (.fix s16 (vb false) (.wait 13 (.fix s16 (vb false) (.wait 13 (.fix s16 (vb false) .nil))))))
  (show (vb (eqI x d0) = vb false ∧ vb (eqI x d1) = vb false ∧ vb (eqI x d2) = vb false ∧ vb false = vb false ∧ (rR (some (oC [vi d0, vi d1, vi d2] false)) ∧ True) ∧ True) from
  ⟨cb (eqF rfl rfl (has_1_n_o0 x d0 n0)), cb (eqF rfl rfl (has_2_n_o1 x d1 n1)), cb (eqF rfl rfl (has_3_n_o2 x d2 n2)), (by rfl), ⟨(by rfl), trivial⟩, trivial⟩)
  (by kernel_rfl) Y
noncomputable abbrev srt_Qa (j k : Nat) (zs ys : List Int) : Con := ⟨[.func (.func 54) [] [.ptr 0 0]], [.cells [.slice 1 0 j k 1] false, .cells (iV zs) false], .slice 2 0 j j 1, [.cells [.slice 1 0 j k 1] false, .cells (iV zs) false], [(2, .cells (iV ys) false)]⟩
noncomputable abbrev srt_Qb (j k : Nat) (zs xs : List Int) : Con := { args := [V.func (Fn.func 54) [] [V.ptr 0 0]], pre := [oC [V.slice 1 0 j k 1] false, oC (iV zs) false], ans := V.slice 2 0 j j 1, old := [oC [V.slice 1 0 j k 1] false, oC (iV zs) false], new := [(2, oC (iV xs) false)] }
noncomputable abbrev srt_Qc (j : Nat) (xs ys : List Int) : Con := { args := [V.slice 0 0 j j 1], pre := [oC (iV xs) false], ans := V.tuple [], old := [oC (iV ys) false], new := [] }
theorem srt (Y : Ys Prop) (j k : Nat) (zs xs ys : List Int) (h : S37 (srt_Qb j k zs xs)) (w : Con.wf (srt_Qb j k zs xs) = true) (g : S53 (srt_Qc j xs ys)) (w2 : Con.wf (srt_Qc j xs ys) = true) :
   body1 pA (callD pA tb0 la35 5) Y c35 (srt_Qa j k zs ys).args (memO (srt_Qa j k zs ys).pre) (endC (srt_Qa j k zs ys)) :=
  walkC_of_vc (C := (srt_Qa j k zs ys)) (mono35) (.wait 2 (.con (srt_Qb j k zs xs) [0, 1] (.fixM 1 (oC (iV zs) false) (.fixM 2 (oC (iV xs) false) (.wait 2 (.con (srt_Qc j xs ys) [2] (.fixM 2 (oC (iV ys) false) .nil)))))))
  (show (cA (srt_Qb j k zs xs) [0, 1] ([V.func (Fn.func 54) [] [V.ptr 0 0]]) la35 37 ((oR [0, 1] (oC [V.slice 1 0 j k 1] false) ∧ (oR [0, 1] (oC (iV zs) false) ∧ True)) ∧ (eC (srt_Qb j k zs xs) [0, 1] 2 (iV zs) ∧ (eC (srt_Qb j k zs xs) [0, 1] 2 (iV xs) ∧ (cA (srt_Qc j xs ys) [2] ([V.slice 2 0 j j 1]) la35 53 ((oR [2] (oC (iV xs) false) ∧ True) ∧ (eC (srt_Qc j xs ys) [2] 3 (iV ys) ∧ (rR (V.slice 2 0 j j 1) ∧ (rR (some (oC [V.slice 1 0 j k 1] false)) ∧ (rR (some (oC (iV zs) false)) ∧ True)) ∧ (rR (some (oC (iV ys) false)) ∧ True))))))))) from
  ⟨(cI (h)), w, rfl, rfl, ⟨rfl, ⟨congrArg (fun c => some (AObj.cells c false)) (rens_iV _ _).symm, trivial⟩⟩, ⟨(congrArg (fun c => some (AObj.cells c false)) (rens_iV _ _)), ⟨(congrArg (fun c => some (AObj.cells c false)) (rens_iV _ _)), ⟨(cM rfl (cI (g))), w2, rfl, rfl, ⟨congrArg (fun c => some (AObj.cells c false)) (rens_iV _ _).symm, trivial⟩, ⟨(congrArg (fun c => some (AObj.cells c false)) (rens_iV _ _)), ⟨(by rfl), ⟨(by rfl), ⟨(by rfl), trivial⟩⟩, ⟨(by rfl), trivial⟩⟩⟩⟩⟩⟩⟩)
  (by kernel_rfl) Y
noncomputable abbrev srt0_Qa (j k : Nat) (zs : List Int) : Con := ⟨[.func (.func 54) [] [.ptr 0 0]], [.cells [.slice 1 0 j k 1] false, .cells (iV zs) false], .nilslice, [.cells [.slice 1 0 j k 1] false, .cells (iV zs) false], []⟩
noncomputable abbrev srt0_Qb : Con := { args := [V.nilslice], pre := [], ans := V.tuple [], old := [], new := [] }
theorem srt0 (Y : Ys Prop) (j k : Nat) (zs : List Int) (h : S37 (srt0_Qa j k zs)) (w : Con.wf (srt0_Qa j k zs) = true) (g : S53 (srt0_Qb)) :
   body1 pA (callD pA tb0 la35 5) Y c35 (srt0_Qa j k zs).args (memO (srt0_Qa j k zs).pre) (endC (srt0_Qa j k zs)) :=
  walkC_of_vc (C := (srt0_Qa j k zs)) (mono35) (.wait 2 (.con (srt0_Qa j k zs) [0, 1] (.fixM 1 (oC (iV zs) false) (.wait 2 (.con (srt0_Qb) [] .nil)))))
  (show (cA (srt0_Qa j k zs) [0, 1] ([V.func (Fn.func 54) [] [V.ptr 0 0]]) la35 37 ((oR [0, 1] (oC [V.slice 1 0 j k 1] false) ∧ (oR [0, 1] (oC (iV zs) false) ∧ True)) ∧ (eC (srt0_Qa j k zs) [0, 1] 2 (iV zs) ∧ (cA (srt0_Qb) [] ([V.nilslice]) la35 53 (True ∧ (V.nilslice = V.nilslice ∧ (rR (some (oC [V.slice 1 0 j k 1] false)) ∧ (rR (some (oC (iV zs) false)) ∧ True)) ∧ True)))))) from
  ⟨(cI (h)), w, rfl, rfl, ⟨rfl, ⟨congrArg (fun c => some (AObj.cells c false)) (rens_iV _ _).symm, trivial⟩⟩, ⟨(congrArg (fun c => some (AObj.cells c false)) (rens_iV _ _)), ⟨(cM rfl (cI (g))), (by kernel_rfl), rfl, rfl, trivial, ⟨(by rfl), ⟨(by rfl), ⟨(by rfl), trivial⟩⟩, trivial⟩⟩⟩⟩)
  (by kernel_rfl) Y
noncomputable abbrev wc_Qa (b0 b1 b2 b3 v : Bool) (n : Nat) : Con := ⟨[.int .i64 ((n : Nat) : Int), .ptr 0 0], [.cells (inP b0 b1 b2 b3) false], .bool (!v), [.cells (inP b0 b1 b2 b3) false], []⟩
theorem wc_o0 (n : Nat) (hn : n < (4 : Nat)) : n < (4 : Nat) := by omega
theorem wc (Y : Ys Prop) (b0 b1 b2 b3 v : Bool) (n : Nat) (hn : n < 4) (q : nth (inP b0 b1 b2 b3) n = some (.bool v)) :
   body1 pA (callD pA tb0 la0 5) Y c52 (wc_Qa b0 b1 b2 b3 v n).args (memO (wc_Qa b0 b1 b2 b3 v n).pre) (endC (wc_Qa b0 b1 b2 b3 v n)) :=
  walkC_of_vc (C := (wc_Qa b0 b1 b2 b3 v n)) (mono_false) (.wait 2 (.res (V.ptr 0 n) (.res (vb v) .nil)))
  (show (iaddrAV (4) 1 (V.ptr 0 0) (vi ↑n) = some (V.ptr 0 n) ∧ nth (inP b0 b1 b2 b3) (n) = some (vb v) ∧ vb (nB v) = vb (nB v) ∧ (rR (some (oC (inP b0 b1 b2 b3) false)) ∧ True) ∧ True) from
  ⟨(iaddrA_ok1 (i := n) rfl (wc_o0 n hn)), q, (Eq.trans (cb (congrArg Bool.not rfl)) (by rfl)), ⟨(by rfl), trivial⟩, trivial⟩)
  (by kernel_rfl) Y
noncomputable abbrev wh_0_Qa (b0 b1 b2 b3 : Bool) : Con := ⟨[ag b0 b1 b2 b3, .nilslice], [], .bool true, [], []⟩
theorem wh_0 (Y : Ys Prop) (b0 b1 b2 b3 : Bool) :
   body1 pA (callD pA tbWh la52 6) Y c34 (wh_0_Qa b0 b1 b2 b3).args (memO (wh_0_Qa b0 b1 b2 b3).pre) (endC (wh_0_Qa b0 b1 b2 b3)) :=
  walkC_of_vc (C := (wh_0_Qa b0 b1 b2 b3)) (mono52) .nil
  (show (vb true = vb true ∧ True ∧ True) from
  ⟨(by rfl), trivial, trivial⟩)
  (by kernel_rfl) Y
noncomputable abbrev wh_1_0_Qa (b0 b1 b2 b3 : Bool) (d0 : Int) : Con := ⟨[ag b0 b1 b2 b3, .slice 0 0 1 1 1], [.cells [.int .i64 d0] false], .bool false, [.cells [.int .i64 d0] false], []⟩
noncomputable abbrev wh_1_0_Qb (b0 b1 b2 b3 : Bool) (d0 : Int) : Con := { args := [vi d0, V.ptr 0 0], pre := [oC (inP b0 b1 b2 b3) false], ans := vb true, old := [oC (inP b0 b1 b2 b3) false], new := [] }
theorem wh_1_0 (Y : Ys Prop) (b0 b1 b2 b3 : Bool) (d0 : Int) (u0 : S52 (wh_1_0_Qb b0 b1 b2 b3 d0)) :
   body1 pA (callD pA tbWh la52 6) Y c34 (wh_1_0_Qa b0 b1 b2 b3 d0).args (memO (wh_1_0_Qa b0 b1 b2 b3 d0).pre) (endC (wh_1_0_Qa b0 b1 b2 b3 d0)) :=
  walkC_of_vc (C := (wh_1_0_Qa b0 b1 b2 b3 d0)) (mono52) (.wait 23 (.con (wh_1_0_Qb b0 b1 b2 b3 d0) [1] .nil))
  (show (cB (wh_1_0_Qb b0 b1 b2 b3 d0) [1] ([vi d0, V.ptr 1 0]) la52 (.func (.func 52) [] [V.ptr 1 0]) ([vi d0]) ((oR [1] (oC (inP b0 b1 b2 b3) false) ∧ True) ∧ (vb false = vb false ∧ (rR (some (oC [vi d0] false)) ∧ True) ∧ True))) from
  ⟨fun m' K' h1 h2 => conInCl (u0) h1 h2, (by kernel_rfl), rfl, rfl, ⟨rfl, trivial⟩, ⟨(by rfl), ⟨(by rfl), trivial⟩, trivial⟩⟩)
  (by kernel_rfl) Y
noncomputable abbrev wh_1_1_Qa (b0 b1 b2 b3 : Bool) (d0 : Int) : Con := ⟨[ag b0 b1 b2 b3, .slice 0 0 1 1 1], [.cells [.int .i64 d0] false], .bool true, [.cells [.int .i64 d0] false], []⟩
noncomputable abbrev wh_1_1_Qb (b0 b1 b2 b3 : Bool) (d0 : Int) : Con := { args := [vi d0, V.ptr 0 0], pre := [oC (inP b0 b1 b2 b3) false], ans := vb false, old := [oC (inP b0 b1 b2 b3) false], new := [] }
theorem wh_1_1 (Y : Ys Prop) (b0 b1 b2 b3 : Bool) (d0 : Int) (u0 : S52 (wh_1_1_Qb b0 b1 b2 b3 d0)) :
   body1 pA (callD pA tbWh la52 6) Y c34 (wh_1_1_Qa b0 b1 b2 b3 d0).args (memO (wh_1_1_Qa b0 b1 b2 b3 d0).pre) (endC (wh_1_1_Qa b0 b1 b2 b3 d0)) :=
  walkC_of_vc (C := (wh_1_1_Qa b0 b1 b2 b3 d0)) (mono52) (.wait 23 (.con (wh_1_1_Qb b0 b1 b2 b3 d0) [1] .nil))
  (show (cB (wh_1_1_Qb b0 b1 b2 b3 d0) [1] ([vi d0, V.ptr 1 0]) la52 (.func (.func 52) [] [V.ptr 1 0]) ([vi d0]) ((oR [1] (oC (inP b0 b1 b2 b3) false) ∧ True) ∧ (vb true = vb true ∧ (rR (some (oC [vi d0] false)) ∧ True) ∧ True))) from
  ⟨fun m' K' h1 h2 => conInCl (u0) h1 h2, (by kernel_rfl), rfl, rfl, ⟨rfl, trivial⟩, ⟨(by rfl), ⟨(by rfl), trivial⟩, trivial⟩⟩)
  (by kernel_rfl) Y
noncomputable abbrev wh_2_0_Qa (b0 b1 b2 b3 : Bool) (d0 d1 : Int) : Con := ⟨[ag b0 b1 b2 b3, .slice 0 0 2 2 1], [.cells [.int .i64 d0, .int .i64 d1] false], .bool false, [.cells [.int .i64 d0, .int .i64 d1] false], []⟩
theorem wh_2_0 (Y : Ys Prop) (b0 b1 b2 b3 : Bool) (d0 d1 : Int) (u0 : S52 (wh_1_0_Qb b0 b1 b2 b3 d0)) :
   body1 pA (callD pA tbWh la52 6) Y c34 (wh_2_0_Qa b0 b1 b2 b3 d0 d1).args (memO (wh_2_0_Qa b0 b1 b2 b3 d0 d1).pre) (endC (wh_2_0_Qa b0 b1 b2 b3 d0 d1)) :=
  walkC_of_vc (C := (wh_2_0_Qa b0 b1 b2 b3 d0 d1)) (mono52) (.wait 23 (.con (wh_1_0_Qb b0 b1 b2 b3 d0) [1] .nil))
  (show (cB (wh_1_0_Qb b0 b1 b2 b3 d0) [1] ([vi d0, V.ptr 1 0]) la52 (.func (.func 52) [] [V.ptr 1 0]) ([vi d0]) ((oR [1] (oC (inP b0 b1 b2 b3) false) ∧ True) ∧ (vb false = vb false ∧ (rR (some (oC [vi d0, vi d1] false)) ∧ True) ∧ True))) from
  ⟨fun m' K' h1 h2 => conInCl (u0) h1 h2, (by kernel_rfl), rfl, rfl, ⟨rfl, trivial⟩, ⟨(by rfl), ⟨(by rfl), trivial⟩, trivial⟩⟩)
  (by kernel_rfl) Y
noncomputable abbrev wh_2_1_Qa (b0 b1 b2 b3 : Bool) (d1 : Int) : Con := { args := [vi d1, V.ptr 0 0], pre := [oC (inP b0 b1 b2 b3) false], ans := vb true, old := [oC (inP b0 b1 b2 b3) false], new := [] }
theorem wh_2_1 (Y : Ys Prop) (b0 b1 b2 b3 : Bool) (d0 d1 : Int) (u0 : S52 (wh_1_1_Qb b0 b1 b2 b3 d0)) (u1 : S52 (wh_2_1_Qa b0 b1 b2 b3 d1)) :
   body1 pA (callD pA tbWh la52 6) Y c34 (wh_2_0_Qa b0 b1 b2 b3 d0 d1).args (memO (wh_2_0_Qa b0 b1 b2 b3 d0 d1).pre) (endC (wh_2_0_Qa b0 b1 b2 b3 d0 d1)) :=
  walkC_of_vc (C := (wh_2_0_Qa b0 b1 b2 b3 d0 d1)) (mono52) (.wait 23 (.con (wh_1_1_Qb b0 b1 b2 b3 d0) [1] (.wait 12 (.con (wh_2_1_Qa b0 b1 b2 b3 d1) [1] .nil))))
  (show (cB (wh_1_1_Qb b0 b1 b2 b3 d0) [1] ([vi d0, V.ptr 1 0]) la52 (.func (.func 52) [] [V.ptr 1 0]) ([vi d0]) ((oR [1] (oC (inP b0 b1 b2 b3) false) ∧ True) ∧ (cB (wh_2_1_Qa b0 b1 b2 b3 d1) [1] ([vi d1, V.ptr 1 0]) la52 (.func (.func 52) [] [V.ptr 1 0]) ([vi d1]) ((oR [1] (oC (inP b0 b1 b2 b3) false) ∧ True) ∧ (vb false = vb false ∧ (rR (some (oC [vi d0, vi d1] false)) ∧ True) ∧ True))))) from
  ⟨fun m' K' h1 h2 => conInCl (u0) h1 h2, (by kernel_rfl), rfl, rfl, ⟨rfl, trivial⟩, ⟨fun m' K' h1 h2 => conInCl (u1) h1 h2, (by kernel_rfl), rfl, rfl, ⟨rfl, trivial⟩, ⟨(by rfl), ⟨(by rfl), trivial⟩, trivial⟩⟩⟩)
  (by kernel_rfl) Y
noncomputable abbrev wh_2_2_Qa (b0 b1 b2 b3 : Bool) (d0 d1 : Int) : Con := ⟨[ag b0 b1 b2 b3, .slice 0 0 2 2 1], [.cells [.int .i64 d0, .int .i64 d1] false], .bool true, [.cells [.int .i64 d0, .int .i64 d1] false], []⟩
noncomputable abbrev wh_2_2_Qb (b0 b1 b2 b3 : Bool) (d1 : Int) : Con := { args := [vi d1, V.ptr 0 0], pre := [oC (inP b0 b1 b2 b3) false], ans := vb false, old := [oC (inP b0 b1 b2 b3) false], new := [] }
theorem wh_2_2 (Y : Ys Prop) (b0 b1 b2 b3 : Bool) (d0 d1 : Int) (u0 : S52 (wh_1_1_Qb b0 b1 b2 b3 d0)) (u1 : S52 (wh_2_2_Qb b0 b1 b2 b3 d1)) :
   body1 pA (callD pA tbWh la52 6) Y c34 (wh_2_2_Qa b0 b1 b2 b3 d0 d1).args (memO (wh_2_2_Qa b0 b1 b2 b3 d0 d1).pre) (endC (wh_2_2_Qa b0 b1 b2 b3 d0 d1)) :=
  walkC_of_vc (C := (wh_2_2_Qa b0 b1 b2 b3 d0 d1)) (mono52) (.wait 23 (.con (wh_1_1_Qb b0 b1 b2 b3 d0) [1] (.wait 12 (.con (wh_2_2_Qb b0 b1 b2 b3 d1) [1] .nil))))
  (show (cB (wh_1_1_Qb b0 b1 b2 b3 d0) [1] ([vi d0, V.ptr 1 0]) la52 (.func (.func 52) [] [V.ptr 1 0]) ([vi d0]) ((oR [1] (oC (inP b0 b1 b2 b3) false) ∧ True) ∧ (cB (wh_2_2_Qb b0 b1 b2 b3 d1) [1] ([vi d1, V.ptr 1 0]) la52 (.func (.func 52) [] [V.ptr 1 0]) ([vi d1]) ((oR [1] (oC (inP b0 b1 b2 b3) false) ∧ True) ∧ (vb true = vb true ∧ (rR (some (oC [vi d0, vi d1] false)) ∧ True) ∧ True))))) from
  ⟨fun m' K' h1 h2 => conInCl (u0) h1 h2, (by kernel_rfl), rfl, rfl, ⟨rfl, trivial⟩, ⟨fun m' K' h1 h2 => conInCl (u1) h1 h2, (by kernel_rfl), rfl, rfl, ⟨rfl, trivial⟩, ⟨(by rfl), ⟨(by rfl), trivial⟩, trivial⟩⟩⟩)
  (by kernel_rfl) Y
noncomputable abbrev wh_3_0_Qa (b0 b1 b2 b3 : Bool) (d0 d1 d2 : Int) : Con := ⟨[ag b0 b1 b2 b3, .slice 0 0 3 3 1], [.cells [.int .i64 d0, .int .i64 d1, .int .i64 d2] false], .bool false, [.cells [.int .i64 d0, .int .i64 d1, .int .i64 d2] false], []⟩
theorem wh_3_0 (Y : Ys Prop) (b0 b1 b2 b3 : Bool) (d0 d1 d2 : Int) (u0 : S52 (wh_1_0_Qb b0 b1 b2 b3 d0)) :
   body1 pA (callD pA tbWh la52 6) Y c34 (wh_3_0_Qa b0 b1 b2 b3 d0 d1 d2).args (memO (wh_3_0_Qa b0 b1 b2 b3 d0 d1 d2).pre) (endC (wh_3_0_Qa b0 b1 b2 b3 d0 d1 d2)) :=
  walkC_of_vc (C := (wh_3_0_Qa b0 b1 b2 b3 d0 d1 d2)) (mono52) (.wait 23 (.con (wh_1_0_Qb b0 b1 b2 b3 d0) [1] .nil))
  (show (cB (wh_1_0_Qb b0 b1 b2 b3 d0) [1] ([vi d0, V.ptr 1 0]) la52 (.func (.func 52) [] [V.ptr 1 0]) ([vi d0]) ((oR [1] (oC (inP b0 b1 b2 b3) false) ∧ True) ∧ (vb false = vb false ∧ (rR (some (oC [vi d0, vi d1, vi d2] false)) ∧ True) ∧ True))) from
  ⟨fun m' K' h1 h2 => conInCl (u0) h1 h2, (by kernel_rfl), rfl, rfl, ⟨rfl, trivial⟩, ⟨(by rfl), ⟨(by rfl), trivial⟩, trivial⟩⟩)
  (by kernel_rfl) Y
theorem wh_3_1 (Y : Ys Prop) (b0 b1 b2 b3 : Bool) (d0 d1 d2 : Int) (u0 : S52 (wh_1_1_Qb b0 b1 b2 b3 d0)) (u1 : S52 (wh_2_1_Qa b0 b1 b2 b3 d1)) :
   body1 pA (callD pA tbWh la52 6) Y c34 (wh_3_0_Qa b0 b1 b2 b3 d0 d1 d2).args (memO (wh_3_0_Qa b0 b1 b2 b3 d0 d1 d2).pre) (endC (wh_3_0_Qa b0 b1 b2 b3 d0 d1 d2)) :=
  walkC_of_vc (C := (wh_3_0_Qa b0 b1 b2 b3 d0 d1 d2)) (mono52) (.wait 23 (.con (wh_1_1_Qb b0 b1 b2 b3 d0) [1] (.wait 12 (.con (wh_2_1_Qa b0 b1 b2 b3 d1) [1] .nil))))
  (show (cB (wh_1_1_Qb b0 b1 b2 b3 d0) [1] ([vi d0, V.ptr 1 0]) la52 (.func (.func 52) [] [V.ptr 1 0]) ([vi d0]) ((oR [1] (oC (inP b0 b1 b2 b3) false) ∧ True) ∧ (cB (wh_2_1_Qa b0 b1 b2 b3 d1) [1] ([vi d1, V.ptr 1 0]) la52 (.func (.func 52) [] [V.ptr 1 0]) ([vi d1]) ((oR [1] (oC (inP b0 b1 b2 b3) false) ∧ True) ∧ (vb false = vb false ∧ (rR (some (oC [vi d0, vi d1, vi d2] false)) ∧ True) ∧ True))))) from
  ⟨fun m' K' h1 h2 => conInCl (u0) h1 h2, (by kernel_rfl), rfl, rfl, ⟨rfl, trivial⟩, ⟨fun m' K' h1 h2 => conInCl (u1) h1 h2, (by kernel_rfl), rfl, rfl, ⟨rfl, trivial⟩, ⟨(by rfl), ⟨(by rfl), trivial⟩, trivial⟩⟩⟩)
  (by kernel_rfl) Y
noncomputable abbrev wh_3_2_Qa (b0 b1 b2 b3 : Bool) (d2 : Int) : Con := { args := [vi d2, V.ptr 0 0], pre := [oC (inP b0 b1 b2 b3) false], ans := vb true, old := [oC (inP b0 b1 b2 b3) false], new := [] }
theorem wh_3_2 (Y : Ys Prop) (b0 b1 b2 b3 : Bool) (d0 d1 d2 : Int) (u0 : S52 (wh_1_1_Qb b0 b1 b2 b3 d0)) (u1 : S52 (wh_2_2_Qb b0 b1 b2 b3 d1)) (u2 : S52 (wh_3_2_Qa b0 b1 b2 b3 d2)) :
   body1 pA (callD pA tbWh la52 6) Y c34 (wh_3_0_Qa b0 b1 b2 b3 d0 d1 d2).args (memO (wh_3_0_Qa b0 b1 b2 b3 d0 d1 d2).pre) (endC (wh_3_0_Qa b0 b1 b2 b3 d0 d1 d2)) :=
  walkC_of_vc (C := (wh_3_0_Qa b0 b1 b2 b3 d0 d1 d2)) (mono52) (.wait 23 (.con (wh_1_1_Qb b0 b1 b2 b3 d0) [1] (.wait 12 (.con (wh_2_2_Qb b0 b1 b2 b3 d1) [1] (.wait 12 (.con (wh_3_2_Qa b0 b1 b2 b3 d2) [1] .nil))))))
  (show (cB (wh_1_1_Qb b0 b1 b2 b3 d0) [1] ([vi d0, V.ptr 1 0]) la52 (.func (.func 52) [] [V.ptr 1 0]) ([vi d0]) ((oR [1] (oC (inP b0 b1 b2 b3) false) ∧ True) ∧ (cB (wh_2_2_Qb b0 b1 b2 b3 d1) [1] ([vi d1, V.ptr 1 0]) la52 (.func (.func 52) [] [V.ptr 1 0]) ([vi d1]) ((oR [1] (oC (inP b0 b1 b2 b3) false) ∧ True) ∧ (cB (wh_3_2_Qa b0 b1 b2 b3 d2) [1] ([vi d2, V.ptr 1 0]) la52 (.func (.func 52) [] [V.ptr 1 0]) ([vi d2]) ((oR [1] (oC (inP b0 b1 b2 b3) false) ∧ True) ∧ (vb false = vb false ∧ (rR (some (oC [vi d0, vi d1, vi d2] false)) ∧ True) ∧ True))))))) from
  ⟨fun m' K' h1 h2 => conInCl (u0) h1 h2, (by kernel_rfl), rfl, rfl, ⟨rfl, trivial⟩, ⟨fun m' K' h1 h2 => conInCl (u1) h1 h2, (by kernel_rfl), rfl, rfl, ⟨rfl, trivial⟩, ⟨fun m' K' h1 h2 => conInCl (u2) h1 h2, (by kernel_rfl), rfl, rfl, ⟨rfl, trivial⟩, ⟨(by rfl), ⟨(by rfl), trivial⟩, trivial⟩⟩⟩⟩)
  (by kernel_rfl) Y
noncomputable abbrev wh_3_3_Qa (b0 b1 b2 b3 : Bool) (d0 d1 d2 : Int) : Con := ⟨[ag b0 b1 b2 b3, .slice 0 0 3 3 1], [.cells [.int .i64 d0, .int .i64 d1, .int .i64 d2] false], .bool true, [.cells [.int .i64 d0, .int .i64 d1, .int .i64 d2] false], []⟩
noncomputable abbrev wh_3_3_Qb (b0 b1 b2 b3 : Bool) (d2 : Int) : Con := { args := [vi d2, V.ptr 0 0], pre := [oC (inP b0 b1 b2 b3) false], ans := vb false, old := [oC (inP b0 b1 b2 b3) false], new := [] }
theorem wh_3_3 (Y : Ys Prop) (b0 b1 b2 b3 : Bool) (d0 d1 d2 : Int) (u0 : S52 (wh_1_1_Qb b0 b1 b2 b3 d0)) (u1 : S52 (wh_2_2_Qb b0 b1 b2 b3 d1)) (u2 : S52 (wh_3_3_Qb b0 b1 b2 b3 d2)) :
   body1 pA (callD pA tbWh la52 6) Y c34 (wh_3_3_Qa b0 b1 b2 b3 d0 d1 d2).args (memO (wh_3_3_Qa b0 b1 b2 b3 d0 d1 d2).pre) (endC (wh_3_3_Qa b0 b1 b2 b3 d0 d1 d2)) :=
  walkC_of_vc (C := (wh_3_3_Qa b0 b1 b2 b3 d0 d1 d2)) (mono52) (.wait 23 (.con (wh_1_1_Qb b0 b1 b2 b3 d0) [1] (.wait 12 (.con (wh_2_2_Qb b0 b1 b2 b3 d1) [1] (.wait 12 (.con (wh_3_3_Qb b0 b1 b2 b3 d2) [1] .nil))))))
  (show (cB (wh_1_1_Qb b0 b1 b2 b3 d0) [1] ([vi d0, V.ptr 1 0]) la52 (.func (.func 52) [] [V.ptr 1 0]) ([vi d0]) ((oR [1] (oC (inP b0 b1 b2 b3) false) ∧ True) ∧ (cB (wh_2_2_Qb b0 b1 b2 b3 d1) [1] ([vi d1, V.ptr 1 0]) la52 (.func (.func 52) [] [V.ptr 1 0]) ([vi d1]) ((oR [1] (oC (inP b0 b1 b2 b3) false) ∧ True) ∧ (cB (wh_3_3_Qb b0 b1 b2 b3 d2) [1] ([vi d2, V.ptr 1 0]) la52 (.func (.func 52) [] [V.ptr 1 0]) ([vi d2]) ((oR [1] (oC (inP b0 b1 b2 b3) false) ∧ True) ∧ (vb true = vb true ∧ (rR (some (oC [vi d0, vi d1, vi d2] false)) ∧ True) ∧ True))))))) from
  ⟨fun m' K' h1 h2 => conInCl (u0) h1 h2, (by kernel_rfl), rfl, rfl, ⟨rfl, trivial⟩, ⟨fun m' K' h1 h2 => conInCl (u1) h1 h2, (by kernel_rfl), rfl, rfl, ⟨rfl, trivial⟩, ⟨fun m' K' h1 h2 => conInCl (u2) h1 h2, (by kernel_rfl), rfl, rfl, ⟨rfl, trivial⟩, ⟨(by rfl), ⟨(by rfl), trivial⟩, trivial⟩⟩⟩⟩)
  (by kernel_rfl) Y
noncomputable abbrev oth_Qa (l m r s : Int) (L : LL) (c : Nat) (ro : Bool) (j : Nat) (ys : List Int) : Con := ⟨[geo l m r, .int .i64 s, .map 0], [.map (mV L) c ro], .slice 5 0 j j 1, [.map (mV L) c ro], [(5, .cells (iV ys) false)]⟩
noncomputable abbrev oth_Qb (L : LL) (c : Nat) (ro : Bool) (k j : Nat) (zs zs1 : List Int) : Con := { args := [V.slice 0 0 k k 1, V.func (Fn.func 50) [] [V.ptr 1 0]], pre := [oC (iV zs) false, oC [V.map 2] false, oM (mV L) c ro], ans := V.slice 0 0 j k 1, old := [oC (iV zs1) false, oC [V.map 2] false, oM (mV L) c ro], new := [] }
noncomputable abbrev oth_Qc (k j : Nat) (zs1 ys : List Int) : Con := { args := [V.func (Fn.func 54) [] [V.ptr 0 0]], pre := [oC [V.slice 1 0 j k 1] false, oC (iV zs1) false], ans := V.slice 2 0 j j 1, old := [oC [V.slice 1 0 j k 1] false, oC (iV zs1) false], new := [(2, oC (iV ys) false)] }
theorem oth (Y : Ys Prop) (l m r s : Int) (L : LL) (c : Nat) (ro : Bool) (k j : Nat) (zs zs1 ys : List Int) (h16 : S16s [geo l m r, .int .i64 s] = some (Lay.new (Hd.slice k 1) none (AObj.cells (iV zs) false))) (h49 : S49 (oth_Qb L c ro k j zs zs1)) (h49w : Con.wf (oth_Qb L c ro k j zs zs1) = true) (h35 : S35 (oth_Qc k j zs1 ys)) (h35w : Con.wf (oth_Qc k j zs1 ys) = true)  :
   body1 pA (callD pA tbVal la33 5) Y c33 (oth_Qa l m r s L c ro j ys).args (memO (oth_Qa l m r s L c ro j ys).pre) (endC (oth_Qa l m r s L c ro j ys)) :=
  walkC_of_vc (C := (oth_Qa l m r s L c ro j ys)) (mono33) (.wait 5 (.lay (Lay.new (Hd.slice k 1) none (oC (iV zs) false)) (.wait 1 (.con (oth_Qb L c ro k j zs zs1) [3, 2, 0] (.fixM 0 (oM (mV L) c ro) (.fixM 3 (oC (iV zs1) false) (.wait 5 (.con (oth_Qc k j zs1 ys) [4, 3] (.fixM 3 (oC (iV zs1) false) (.fixM 5 (oC (iV ys) false) .nil))))))))))
  (show ((∀ (m' : Mem) (K' : V → Mem → Prop), la33 (.func (.func 16) [] []) ([geo l m r, vi s]) m' K' = Lay.go (Lay.new (Hd.slice k 1) none (oC (iV zs) false)) m' K') ∧ (cA (oth_Qb L c ro k j zs zs1) [3, 2, 0] ([V.slice 3 0 k k 1, V.func (Fn.func 50) [] [V.ptr 2 0]]) la33 49 ((oR [3, 2, 0] (oC (iV zs) false) ∧ (some (oC [V.map 0] false) = some (AObj.ren (nthD [3, 2, 0]) (oC [V.map 2] false)) ∧ (oR [3, 2, 0] (oM (mV L) c ro) ∧ True))) ∧ (eM (oth_Qb L c ro k j zs zs1) [3, 2, 0] 4 (mV L) c ro ∧ (eC (oth_Qb L c ro k j zs zs1) [3, 2, 0] 4 (iV zs1) ∧ (cA (oth_Qc k j zs1 ys) [4, 3] ([V.func (Fn.func 54) [] [V.ptr 4 0]]) la33 35 ((some (oC [V.slice 3 0 j k 1] false) = some (AObj.ren (nthD [4, 3]) (oC [V.slice 1 0 j k 1] false)) ∧ (oR [4, 3] (oC (iV zs1) false) ∧ True)) ∧ (eC (oth_Qc k j zs1 ys) [4, 3] 5 (iV zs1) ∧ (eC (oth_Qc k j zs1 ys) [4, 3] 5 (iV ys) ∧ (rR (V.slice 5 0 j j 1) ∧ (rR (some (oM (mV L) c ro)) ∧ True) ∧ (rR (some (oC (iV ys) false)) ∧ True))))))))))) from
  ⟨fun m' K' => layE h16, ⟨(cI (h49)), h49w, rfl, rfl, ⟨congrArg (fun c => some (AObj.cells c false)) (rens_iV _ _).symm, ⟨rfl, ⟨kMs, trivial⟩⟩⟩, ⟨kM, ⟨(congrArg (fun c => some (AObj.cells c false)) (rens_iV _ _)), ⟨(cM rfl (cI (h35))), h35w, rfl, rfl, ⟨rfl, ⟨congrArg (fun c => some (AObj.cells c false)) (rens_iV _ _).symm, trivial⟩⟩, ⟨(congrArg (fun c => some (AObj.cells c false)) (rens_iV _ _)), ⟨(congrArg (fun c => some (AObj.cells c false)) (rens_iV _ _)), ⟨(by rfl), ⟨(by rfl), trivial⟩, ⟨(by rfl), trivial⟩⟩⟩⟩⟩⟩⟩⟩⟩)
  (by kernel_rfl) Y
noncomputable abbrev oth0_Qa (l m r s : Int) (L : LL) (c : Nat) (ro : Bool) : Con := ⟨[geo l m r, .int .i64 s, .map 0], [.map (mV L) c ro], .nilslice, [.map (mV L) c ro], []⟩
noncomputable abbrev oth0_Qb (k j : Nat) (zs1 : List Int) : Con := { args := [V.func (Fn.func 54) [] [V.ptr 0 0]], pre := [oC [V.slice 1 0 j k 1] false, oC (iV zs1) false], ans := V.nilslice, old := [oC [V.slice 1 0 j k 1] false, oC (iV zs1) false], new := [] }
theorem oth0 (Y : Ys Prop) (l m r s : Int) (L : LL) (c : Nat) (ro : Bool) (k j : Nat) (zs zs1 ys : List Int) (h16 : S16s [geo l m r, .int .i64 s] = some (Lay.new (Hd.slice k 1) none (AObj.cells (iV zs) false))) (h49 : S49 (oth_Qb L c ro k j zs zs1)) (h49w : Con.wf (oth_Qb L c ro k j zs zs1) = true) (h35 : S35 (oth0_Qb k j zs1)) (h35w : Con.wf (oth0_Qb k j zs1) = true)  :
   body1 pA (callD pA tbVal la33 5) Y c33 (oth0_Qa l m r s L c ro).args (memO (oth0_Qa l m r s L c ro).pre) (endC (oth0_Qa l m r s L c ro)) :=
  walkC_of_vc (C := (oth0_Qa l m r s L c ro)) (mono33) (.wait 5 (.lay (Lay.new (Hd.slice k 1) none (oC (iV zs) false)) (.wait 1 (.con (oth_Qb L c ro k j zs zs1) [3, 2, 0] (.fixM 0 (oM (mV L) c ro) (.fixM 3 (oC (iV zs1) false) (.wait 5 (.con (oth0_Qb k j zs1) [4, 3] (.fixM 3 (oC (iV zs1) false) .nil)))))))))
  (show ((∀ (m' : Mem) (K' : V → Mem → Prop), la33 (.func (.func 16) [] []) ([geo l m r, vi s]) m' K' = Lay.go (Lay.new (Hd.slice k 1) none (oC (iV zs) false)) m' K') ∧ (cA (oth_Qb L c ro k j zs zs1) [3, 2, 0] ([V.slice 3 0 k k 1, V.func (Fn.func 50) [] [V.ptr 2 0]]) la33 49 ((oR [3, 2, 0] (oC (iV zs) false) ∧ (some (oC [V.map 0] false) = some (AObj.ren (nthD [3, 2, 0]) (oC [V.map 2] false)) ∧ (oR [3, 2, 0] (oM (mV L) c ro) ∧ True))) ∧ (eM (oth_Qb L c ro k j zs zs1) [3, 2, 0] 4 (mV L) c ro ∧ (eC (oth_Qb L c ro k j zs zs1) [3, 2, 0] 4 (iV zs1) ∧ (cA (oth0_Qb k j zs1) [4, 3] ([V.func (Fn.func 54) [] [V.ptr 4 0]]) la33 35 ((some (oC [V.slice 3 0 j k 1] false) = some (AObj.ren (nthD [4, 3]) (oC [V.slice 1 0 j k 1] false)) ∧ (oR [4, 3] (oC (iV zs1) false) ∧ True)) ∧ (eC (oth0_Qb k j zs1) [4, 3] 5 (iV zs1) ∧ (V.nilslice = V.nilslice ∧ (rR (some (oM (mV L) c ro)) ∧ True) ∧ True))))))))) from
  ⟨fun m' K' => layE h16, ⟨(cI (h49)), h49w, rfl, rfl, ⟨congrArg (fun c => some (AObj.cells c false)) (rens_iV _ _).symm, ⟨rfl, ⟨kMs, trivial⟩⟩⟩, ⟨kM, ⟨(congrArg (fun c => some (AObj.cells c false)) (rens_iV _ _)), ⟨(cM rfl (cI (h35))), h35w, rfl, rfl, ⟨rfl, ⟨congrArg (fun c => some (AObj.cells c false)) (rens_iV _ _).symm, trivial⟩⟩, ⟨(congrArg (fun c => some (AObj.cells c false)) (rens_iV _ _)), ⟨(by rfl), ⟨(by rfl), trivial⟩, trivial⟩⟩⟩⟩⟩⟩⟩)
  (by kernel_rfl) Y
end Go.Proofs.Ytjikaankdnmabaa
