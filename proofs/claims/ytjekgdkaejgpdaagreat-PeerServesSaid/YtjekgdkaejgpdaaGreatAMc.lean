/- An abstract machine for the programs of the model, and that it is sound: part c. No condition: plain definitions and lemmas, used by the proof of this claim. -/
import Derived.OrdersIn
import Derived.RangeFuncLeaves
import Derived.Test.YtjekgdkaejgpdaaGreatAMa
namespace Go.AM
open Go
section
variable {P : Program} {ρ : Ren} {nt : Nat} {T : zAa} {a : Act} {m : Mem} {w : World}
def Loud (P : Program) (ρ : Ren) (m : Mem) (w : World) (v : V) (m' : Mem) (s : Sem Value) : Prop :=
 ∃ v' w' ρ', s.run P w = .ok v' w' ∧ VR ρ' v v' ∧ MR ρ' m' w' ∧ Ext ρ m w ρ' m' w'
def LoudU (P : Program) (ρ : Ren) (m : Mem) (w : World) (m' : Mem) (s : Sem Unit) : Prop :=
 ∃ w' ρ', s.run P w = .ok () w' ∧ MR ρ' m' w' ∧ Ext ρ m w ρ' m' w'
theorem sSto (hm : MR ρ m w) {t : TypeId} {n : Nat} (hn : zBa P t = some n) {x y : Opd} {x' y' : Value} (hx : VR ρ (ev T x) x') (hy : VR ρ (ev T y) y') {v : V} {m' : Mem} (h : zA0 n x y T m = some (v, m')) :
  v = .undef ∧ LoudU P ρ m w m' (Instr.storeAt t x' y') := by
 unfold zA0 at h
 split at h
 ·rename_i b off hst
  rw [hst] at hx
  cases hx with | ptr hb =>
  obtain ⟨h1, h2⟩ := zAF h
  split at h2
  ·rename_i m1 hm1
   simp only [Option.some.injEq, Prod.mk.injEq] at h2
   obtain ⟨rfl, rfl⟩ := h2
   have hyc := hy.cells (zIN hm1)
   obtain ⟨w', h3, h4, h5⟩ := hm.write hb hm1 hyc P
   refine ⟨rfl, w', ρ, ?_, h4, h5⟩
   have hsz : y'.cells.size = n := by rw [← zAL.1 h1, hyc.length]; simp
   simp only [Instr.storeAt, Instr.sureAddr, Sem.run_bind, Sem.run_pure, Result.andThen_ok, storeVar, zAQ w hn]
   rw [if_neg (by simp [hsz])]
   exact h3
  ·cases h2
 ·cases h
theorem sSrc (hm : MR ρ m w) {x : V} {x' : Value} (hx : VR ρ x x') {sz : Nat} {k : Option Nat} {cs : List V} {n : Nat} (hn : srcLen x = some n) (h : zCg m sz k x = some cs) (hk : ∀ q, k = some q → q ≤ n) (hsz1 : (∃ s, x = .str s) → sz = 1) :
  (Builtin.lenOf x').run P w = .ok n w ∧ cs.length = k.getD n * sz ∧
  ∃ cs', VRs ρ cs cs' ∧ ∀ w1 : World, w1.heap = w.heap → (Builtin.firstCells sz (k.getD n) x').run P w1 = .ok ⟨cs'⟩ w1 := by
 have hmin : minO k n = k.getD n := by
  cases k with
  | none => rfl
  | some q => simp only [minO, Option.getD_some]; have := hk q rfl; omega
 cases hx <;> simp only [srcLen, Option.some.injEq, reduceCtorEq] at hn <;> simp only [zCg] at h
 ·
  rename_i s
  subst hn
  have h1 := hsz1 ⟨_, rfl⟩
  subst h1
  simp only [Option.some.injEq] at h; subst h
  have hlen := bytesOf_length s
  have hq : k.getD (bytesOf s).length ≤ s.size := by
   rw [← hlen]
   cases k with
   | none => exact Nat.le_refl _
   | some q => exact hk q rfl
  have e : takeO k (bytesOf s) = (bytesOf s).take (k.getD (bytesOf s).length) := by
   cases k with
   | none => simp [takeO]
   | some q => rfl
  rw [e]
  refine ⟨?_, ?_, ((bytesOf s).take (k.getD (bytesOf s).length)).map (fun (n : Nat) => Value.int .u8 (n : Int)), ?_, ?_⟩
  ·simp [Builtin.lenOf, hlen]
  ·have : ∀ l : List Nat, (zCL l).length = l.length := by intro l; induction l <;> simp_all [zCL]
   rw [this, List.length_take]; omega
  ·generalize (bytesOf s).take (k.getD (bytesOf s).length) = l
   induction l with
   | nil => exact .nil
   | cons b l ih => exact .cons (.int .u8 _) ih
  ·intro w1 _
   simp only [Builtin.firstCells, Sem.run_pure]
   congr 1
   apply Array.ext'
   simp only [Array.toList_map, ByteArray.data_extract]
   unfold bytesOf
   simp [List.map_take]
   rfl
 ·
  rename_i b off len cap sz' i off' cap' hb a1 a2 a3 a4
  subst hn
  obtain ⟨h1, h2⟩ := zAF h
  have hz := zAL.1 h1
  rw [hmin] at h2
  obtain ⟨h3, l', h4, h5⟩ := hm.read hb h2
  refine ⟨rfl, h3, l', h4, ?_⟩
  intro w1 hw1
  have hl : k.getD len * sz = l'.length := by rw [← h4.length]; exact h3.symm
  simp only [Builtin.firstCells]
  rw [hl]
  by_cases h0 : l'.length = 0
  ·have : l' = [] := List.length_eq_zero_iff.1 h0
   subst this
   rfl
  ·have hlen0 : len ≠ 0 := by
    intro e; subst e
    have : k.getD 0 = 0 := by
     cases k with
     | none => rfl
     | some q => have := hk q rfl; simpa using this
    rw [this] at hl; simp at hl; omega
   rw [a3 (by omega)]
   refine run_loadCells_list w1 _ l' ?_
   intro j v hj
   have := h5 j v hj
   unfold World.cell? at *
   rw [hw1]
   exact this
 ·
  subst hn
  simp only [Option.some.injEq] at h; subst h
  have h0 : k.getD 0 = 0 := by
   cases k with
   | none => rfl
   | some q => have := hk q rfl; simpa using this
  exact ⟨rfl, by simp [h0], [], .nil, fun w1 _ => rfl⟩
theorem zGF : ∀ {l : List V} {l' : List Value}, VRs ρ l l' → zDL l = true → ∀ v ∈ l', v.oneCell' = true
 | _, _, .nil, _ => by simp
 | _, _, .cons hv hl, h => by
  simp only [zDL, Bool.and_eq_true] at h
  intro v hm
  rcases List.mem_cons.1 hm with rfl | hm
  ·exact hv.one h.1
  ·exact zGF hl h.2 v hm
theorem MR.kill (hm : MR ρ m w) (b : Nat) : MR ρ (m.set b .dead) w ∧ Ext ρ m w ρ (m.set b .dead) w := by
 have key : ∀ c (u : zAe), (m.set b .dead).get c = some u → u.live = true → m.get c = some u := by
  intro c u hc hl
  rw [Mem.get_set] at hc
  by_cases e : c = b
  ·rw [if_pos e] at hc; cases hc; cases hl
  ·rw [if_neg e] at hc; exact hc
 refine ⟨⟨hm.lt, fun c j u hc hu => ?_, fun c e j l u z hc he hjl hu huw hz hzl => ?_⟩, ⟨ρ.le_refl, Nat.le_refl _, Nat.le_refl _, fun _ _ h => .inl h, fun _ _ _ => rfl, fun c j u hc hu huw _ => ⟨c, j, u, hc, rfl, key c u hu (zAe.live_of_wr huw), huw⟩, zH8.refl w⟩⟩
 ·cases hl : u.live with
  | false => cases u <;> simp_all [zAe.live, OR]
  | true => exact hm.obj c j u hc (key c u hu hl)
 ·exact hm.inj c e j l u z hc he hjl (key c u hu (zAe.live_of_wr huw)) huw (key e z hz hzl) hzl
def zBF (e : TypeId) (size n : Nat) (zeros : Bool) (base : Option Addr) (sLen sCap : Nat) (s x : Value) (appended : Sem (Array Value)) : Sem Value := do
 let need := sLen + n
 if need ≤ sCap then
  let new ← appended
  if let some a := base then storeCells (a.add (sLen * size)) new.toList
  pure (.slice base need sCap)
 else
  if (need : Int) > IntKind.i64.max ∧ (zeros ∨ (← typeInfo e).bytes = 0) then runtimePanic (.error "growslice: len out of range")
  if Builtin.nextslicecap need sCap * (← typeInfo e).bytes > 2 ^ 48 then (if zeros then runtimePanic (.error "growslice: len out of range") else do
   if !(← Builtin.mayShare size sLen n base x) then mark .noRoom
   unsupported (.resourceLimit "append: a slice or a string whose bytes no memory bears"))
  let newCap ← choose (.appendCap need sCap e)
  askRoom (newCap * (← typeInfo e).bytes)
  let old ← Builtin.firstCells size sLen s
  let new ← appended
  let rest := Builtin.zeroCells (← zeroValue e).cells (newCap - need)
  pure (.slice (some (← newRow e (old ++ new ++ rest))) need newCap)
theorem zIe (hm : MR ρ m w) {e : TypeId} {sz bt n : Nat} {inf : TypeInfo} (hi : P.info? e = some inf) (hbt : inf.bytes = bt) {z : V} (hz : zB6 P e = some z) (hzl : z.cells.length = sz) (hsz0 : sz ≠ 0)
  {new : List V} (hnl : new.length = n * sz) {s : V} {s' : Value} (hs : VR ρ s s') {base : Option Addr} {sLen sCap : Nat} (hs' : s' = .slice base sLen sCap) (zeros : Bool) (x : Value) {appended : Sem (Array Value)} {new' : List Value}
  (hnew : VRs ρ new new') (happ : ∀ w1 : World, w1.heap = w.heap → appended.run P w1 = .ok ⟨new'⟩ w1) {v : V} {m' : Mem} (h : zGo sz bt n new s m = some (v, m')) :
  Loud P ρ m w v m' (zBF e sz n zeros base sLen sCap s' x appended) := by
 subst hs'
 have hti : ∀ w : World, (typeInfo e).run P w = .ok inf w := by intro w; simp [typeInfo, hi]
 have grow : ∀ (m1 : Mem) (old : List V) (old' : List Value), MR ρ m1 w → m1.next = m.next → Ext ρ m w ρ m1 w → VRs ρ old old' → old.length = sLen * sz → (∀ w1 : World, w1.heap = w.heap → (Builtin.firstCells sz sLen (.slice base sLen sCap)).run P w1 = .ok ⟨old'⟩ w1) →
   sCap < sLen + n → small (sLen + n) bt = true → Loud P ρ m w (.slice m.next 0 (sLen + n) (sLen + n) sz) (m1.new (.cells (old ++ new) false)) (zBF e sz n zeros base sLen sCap (.slice base sLen sCap) x appended) := by
  intro m1 old old' hm1 hnx hext hold hol hfo hgt hsm
  obtain ⟨hs1, hs2⟩ := small_iff.1 hsm
  obtain ⟨z', z1, z2, _⟩ := zBK hz ρ w
  have hzsz : z'.cells.size = sz := by rw [← hzl, (z2.cells (zEr hz)).length]; simp
  have hge := grownCap_ge w (sLen + n) sCap e
  generalize hcap : grownCap w (sLen + n) sCap e = cap at hge
  have hfit : Builtin.nextslicecap (sLen + n) sCap * inf.bytes ≤ 281474976710656 := growslice_fits hgt (by rw [hbt]; omega)
  have hzr : ∀ w : World, (zeroValue e).run P w = .ok z' w := by
   intro w2
   obtain ⟨z2', y1, _, y3⟩ := zBK hz ρ w2
   obtain ⟨z3', q1, _, q3⟩ := zBK hz ρ w
   have e1 := y3 inf hi
   have e2 := q3 inf hi
   rw [e1] at e2
   rw [z1] at q1
   cases e2; cases q1
   exact y1
  let rest := Builtin.zeroCells z'.cells (cap - (sLen + n))
  let ob : Obj := .cells ((⟨old'⟩ : Array Value) ++ ⟨new'⟩ ++ rest) e
  have hrun : (zBF e sz n zeros base sLen sCap (.slice base sLen sCap) x appended).run P w = .ok (.slice (some ⟨w.heap.size, 0, none⟩) (sLen + n) cap) (w.drew.alloc ob) := by
   have hn : ¬ (sLen + n ≤ sCap) := by omega
   have h63 : ¬ (((sLen + n : Nat) : Int) > IntKind.i64.max) := by
    have : IntKind.i64.max = 9223372036854775807 := by decide
    omega
   have h48 : ¬ (Builtin.nextslicecap (sLen + n) sCap * inf.bytes > 2 ^ 48) := by omega
   have hfo' := hfo w.drew rfl
   have hap' := happ w.drew rfl
   unfold zBF
   simp only [if_neg hn, Sem.run_bind, hti, Result.andThen_ok]
   rw [if_neg (by intro hc; exact h63 hc.1)]
   simp only [Sem.run_bind, hti, Result.andThen_ok]
   rw [if_neg h48]
   have hch : (choose (.appendCap (sLen + n) sCap e)).run P w = .ok cap w.drew := by
    rw [run_choose, ← hcap]; rfl
   simp only [Sem.run_bind, hch, Result.andThen_ok, hti, run_askRoom, hfo', hap', hzr, newRow, run_newObj, Sem.run_pure]
   rfl
  have hpush : Push w (w.drew.alloc ob) ob := ⟨rfl, rfl, rfl⟩
  have hcs : VRs ρ (old ++ new) ((⟨old'⟩ : Array Value) ++ ⟨new'⟩).toList := by
   rw [Array.toList_append]; exact hold.append hnew
  have hor := fun (ρ' : Ren) (hle : ρ.le ρ') => zDG (ρ := ρ) (w := w) (ρ' := ρ') hcs rest (ob' := ob) (ty := e) (lo := 0) (hi := 0) rfl (.inl ⟨rfl, rfl⟩) (w' := w.drew.alloc ob) hpush.1 hle
  have hfree : ρ m1.next = none := by
   cases e : ρ m1.next with
   | none => rfl
   | some i => have := (hm1.lt _ _ e).1; omega
  obtain ⟨q1, q2⟩ := hm1.alloc (o := .cells (old ++ new) false) hpush (n := ((⟨old'⟩ : Array Value) ++ ⟨new'⟩ ++ rest).size) (hor _ (Ren.le_put hfree))
  refine ⟨_, _, _, hrun, ?_, q1, hext.trans q2⟩
  refine .slice (i := ⟨w.heap.size, ((⟨old'⟩ : Array Value) ++ ⟨new'⟩ ++ rest).size, 0, none⟩) (by rw [hnx]; exact Ren.put_self _ _ _) (Nat.le_refl _) hge (fun _ => rfl) ?_
  have l1 := hold.length
  have l2 := hnew.length
  have l3 : rest.size = (cap - (sLen + n)) * sz := by simp [rest, Builtin.zeroCells, hzsz]
  simp only [Array.size_append, l3, List.size_toArray, ← l1, ← l2, hol, hnl, Nat.zero_add]
  rw [← Nat.add_mul, ← Nat.add_mul]
  exact Nat.le_of_eq (congrArg (· * sz) (by omega))
 unfold zGo at h
 split at h
 ·
  cases hs
  by_cases hn0 : n = 0
  ·rw [zCG hn0, cond_true] at h
   simp only [Option.some.injEq, Prod.mk.injEq] at h
   obtain ⟨rfl, rfl⟩ := h
   have : new' = [] := by
    have := hnew.length
    rw [hnl, hn0, Nat.zero_mul] at this
    exact List.length_eq_zero_iff.1 this.symm
   subst this; subst hn0
   refine ⟨.slice none 0 0, w, ρ, ?_, .nilslice, hm, .refl _ _ _⟩
   unfold zBF
   simp only [Nat.add_zero, Nat.le_refl, if_true, Sem.run_bind, happ w rfl, Result.andThen_ok, Sem.run_pure]
  ·rw [zAS hn0, cond_false] at h
   obtain ⟨h1, h2⟩ := zAF h
   simp only [Option.some.injEq, Prod.mk.injEq] at h2
   obtain ⟨rfl, rfl⟩ := h2
   have := grow m [] [] hm rfl (.refl _ _ _) .nil (by simp) (fun w1 _ => rfl) (by omega) (by simpa using h1)
   simpa using this
 ·
  rename_i b off len cap sz'
  cases hs with | slice hb a1 a2 a3 a4 =>
  rename_i i off'
  by_cases hn0 : n = 0
  ·rw [zCG hn0, cond_true] at h
   simp only [Option.some.injEq, Prod.mk.injEq] at h
   obtain ⟨rfl, rfl⟩ := h
   have : new' = [] := by
    have := hnew.length
    rw [hnl, hn0, Nat.zero_mul] at this
    exact List.length_eq_zero_iff.1 this.symm
   subst this; subst hn0
   refine ⟨.slice (some ⟨i.b, off', none⟩) sLen sCap, w, ρ, ?_, .slice hb a1 a2 a3 a4, hm, .refl _ _ _⟩
   unfold zBF
   simp only [Nat.add_zero, if_pos (show sLen ≤ sCap by omega), Sem.run_bind, happ w rfl, Result.andThen_ok, Sem.run_pure, storeCells]
  ·rw [zAS hn0, cond_false] at h
   obtain ⟨h1, hx1⟩ := zAF h
   clear h
   have hz' := zAL.1 h1
   clear h1
   subst hz'
   have h := hx1
   clear hx1
   by_cases hfit : sLen + n ≤ cap
   ·rw [zAA.2 hfit, cond_true] at h
    split at h
    ·rename_i m1 hm1
     simp only [Option.some.injEq, Prod.mk.injEq] at h
     obtain ⟨rfl, rfl⟩ := h
     obtain ⟨w', h3, h4, h5⟩ := hm.write hb hm1 hnew P
     have ho := a3 (by omega)
     refine ⟨.slice (some ⟨i.b, off', none⟩) (sLen + n) sCap, w', ρ, ?_, .slice hb hfit a2 a3 a4, h4, h5⟩
     unfold zBF
     simp only [if_pos (show sLen + n ≤ sCap by omega), Sem.run_bind, happ w rfl, Result.andThen_ok, zCC]
     rw [show off' + sLen * sz = off + sLen * sz + i.d by omega, h3]
     rfl
    ·cases h
   ·rw [show Nat.ble (sLen + n) cap = false from by cases e : Nat.ble (sLen + n) cap with | false => rfl | true => exact absurd (zAA.1 e) hfit, cond_false] at h
    obtain ⟨h2', hx2⟩ := zAF h
    clear h
    have h := hx2
    clear hx2
    simp only [Bool.and_eq_true] at h2'
    obtain ⟨h2, hall⟩ := h2'
    split at h
    ·rename_i cs ho
     split at h
     ·rename_i old hold
      simp only [Option.some.injEq, Prod.mk.injEq] at h
      obtain ⟨rfl, rfl⟩ := h
      rw [zGY] at hold
      obtain ⟨o1, o2⟩ := zIO _ _ _ hold
      have hol : old.length = sLen * sz := by rw [o1]; simp at *; omega
      obtain ⟨cs', ty, lo, hi2, h5, h6, h7, h8⟩ := hm.obj b i _ hb ho
      by_cases hroom : sLen + n ≤ sCap
      ·
       have hoff := a3 (by omega)
       have hnl' := hnew.length
       have hmul : (sLen + n) * sz ≤ sCap * sz := Nat.mul_le_mul_right sz hroom
       rw [Nat.add_mul] at hmul
       have hone : ∀ v ∈ new', v.oneCell' = true := zGF hnew hall
       obtain ⟨w', h9, h10, h10m, h11, h12⟩ := zCK P i.b (off' + sLen * sz) ty lo hi2 new' 0 cs' w h5 (by omega) (by rw [h6]; have := h8 rfl; omega) hone
       have hor : OR (ρ.put m.next ⟨i.b, i.n, off + i.d, none⟩) w' ⟨i.b, i.n, off + i.d, none⟩ (.cells (old ++ new) false) := by
        refine ⟨_, ty, lo, hi2, h12, by rw [zC3]; exact h6, ?_, h8⟩
        have hfree : ρ m.next = none := by
         cases e : ρ m.next with
         | none => rfl
         | some i => have := (hm.lt _ _ e).1; omega
        intro k u hk
        show ∃ v', (zFp cs' (off' + sLen * sz + 0) new')[k + (off + i.d)]? = some v' ∧ _
        rw [zEs new' cs' _ (by omega)]
        by_cases hkl : k < sLen * sz
        ·rw [List.getElem?_append_left (by omega), o1, List.getElem?_take_of_lt hkl, List.getElem?_drop] at hk
         obtain ⟨u', q1, q2⟩ := h7 _ _ hk
         rw [if_neg (by omega)]
         exact ⟨u', by rw [← q1]; congr 1; omega, q2.mono (Ren.le_put hfree)⟩
        ·rw [List.getElem?_append_right (by omega), hol] at hk
         obtain ⟨u', q1, q2⟩ := hnew.get _ _ hk
         have := (List.getElem?_eq_some_iff.1 q1).1
         rw [if_pos (by omega)]
         exact ⟨u', by rw [← q1]; congr 1; omega, q2.mono (Ren.le_put hfree)⟩
       obtain ⟨q1, q2⟩ := hm.alias hb ho rfl h10 h10m h11 hor
       refine ⟨.slice (some ⟨i.b, off', none⟩) (sLen + n) sCap, w', _, ?_, ?_, q1, q2⟩
       ·unfold zBF
        simp only [if_pos hroom, Sem.run_bind, happ w rfl, Result.andThen_ok, zCC]
        rw [h9]
        rfl
       ·exact .slice (i := ⟨i.b, i.n, off + i.d, none⟩) (Ren.put_self _ _ _) (Nat.le_refl _) hroom (fun _ => by show off' = 0 + (off + i.d); omega) a4
      ·
       obtain ⟨k1, k2⟩ := hm.kill b
       have hread : ∃ old', VRs ρ old old' ∧ ∀ w1 : World, w1.heap = w.heap → (Builtin.firstCells sz sLen (.slice (some ⟨i.b, off', none⟩) sLen sCap)).run P w1 = .ok ⟨old'⟩ w1 := by
        have hs0 : zCg m sz none (.slice b off sLen cap sz) = some old := by
         simp only [zCg, zCG rfl, cond_true, zHd, zCz, ho]
         rw [zGY]; exact hold
        obtain ⟨_, _, old', y1, y2⟩ := sSrc (P := P) hm (VR.slice hb a1 a2 a3 a4) (n := sLen) rfl hs0 (by intro q hq; cases hq) (by rintro ⟨s, hs⟩; cases hs)
        exact ⟨old', y1, y2⟩
       obtain ⟨old', y1, y2⟩ := hread
       exact grow (m.set b .dead) old old' k1 rfl k2 y1 hol y2 (by omega) h2
     ·cases h
    ·cases h
 ·cases h
theorem sApp (hm : MR ρ m w) {t u e : TypeId} (ty : TypeId) {sz bt : Nat} (ht : P.underlying t = some (.slice e)) (hu : (P.underlying u = some .string ∧ sz = 1) ∨ ∃ e', P.underlying u = some (.slice e')) (hsz : zBa P e = some sz) (hbt : zFY P e = some bt)
  {z : V} (hz : zB6 P e = some z) (hzl : z.cells.length = sz) (hsz0 : sz ≠ 0) {s x : Opd} {s' x' : Value} (hs : VR ρ (ev T s) s') (hx : VR ρ (ev T x) x') {v : V} {m' : Mem}
  (h : zE2 sz bt s x T m = some (v, m')) : Loud P ρ m w v m' (Builtin.append_ #[t, u] ty #[s', x']) := by
 unfold zE2 at h
 obtain ⟨hso, h⟩ := zAF h
 have hstr : (∃ q, ev T x = .str q) → sz = 1 := by
  rintro ⟨q, hq⟩
  rw [hq] at hso
  exact zAL.1 hso
 split at h
 ·rename_i n new hn hsrc
  obtain ⟨h1, h2, new', h3, h4⟩ := sSrc (P := P) hm hx hn hsrc (by intro q hq; cases hq) hstr
  simp only [Option.getD_none] at h2 h4
  unfold zFY at hbt
  simp only [Option.map_eq_some_iff] at hbt
  obtain ⟨inf, hi, hib⟩ := hbt
  have hsl : ∃ base sLen sCap, s' = .slice base sLen sCap := by
   unfold zGo at h
   generalize ev T s = sv at h hs
   cases hs <;> simp only [reduceCtorEq] at h <;> exact ⟨_, _, _, rfl⟩
  obtain ⟨base, sLen, sCap, rfl⟩ := hsl
  have key := zIe hm hi hib hz hzl hsz0 h2 hs rfl false x' (appended := Builtin.firstCells sz n x') h3 h4 h
  obtain ⟨v', w', ρ', k1, k2, k3, k4⟩ := key
  refine ⟨v', w', ρ', ?_, k2, k3, k4⟩
  rw [← k1]
  rcases hu with ⟨hu, _⟩ | ⟨e', hu⟩
  ·simp only [Builtin.append_, List.getElem?_toArray, List.getElem?_cons_zero, List.getElem?_cons_succ, Sem.run_bind, zAh ht, Result.andThen_ok, zAQ w hsz, zAh hu, Sem.run_pure, Bool.false_eq_true, if_false, h1, Bool.not_false, if_true, zBF]
   cases base <;> rfl
  ·simp only [Builtin.append_, List.getElem?_toArray, List.getElem?_cons_zero, List.getElem?_cons_succ, Sem.run_bind, zAh ht, Result.andThen_ok, zAQ w hsz, zAh hu, Sem.run_pure, Bool.false_eq_true, if_false, h1, Bool.not_false, if_true, zBF]
   cases base <;> rfl
 ·cases h
theorem zFZ {α : Type} {c : Bool} {x : α} {o : Option α} (h : (bif c then none else o) = some x) : c = false ∧ o = some x := by
 cases c
 ·exact ⟨rfl, h⟩
 ·cases h
end
end Go.AM
namespace Go.AM
open Go
section
variable {P : Program} {ρ : Ren} {nt : Nat} {T : zAa} {a : Act} {m : Mem} {w : World}
theorem sClrS (hm : MR ρ m w) {t e : TypeId} (ty : TypeId) (ht : P.underlying t = some (.slice e)) {z : V} (hz : zB6 P e = some z) (hz0 : z.cells.length ≠ 0)
  {s : Opd} {s' : Value} (hs : VR ρ (ev T s) s') {v : V} {m' : Mem} (h : lClrS z.cells s T m = some (v, m')) : Loud P ρ m w v m' (Builtin.clear_ #[t] ty #[s']) := by
 unfold lClrS at h
 split at h
 ·rename_i hn
  rw [hn] at hs
  cases hs
  simp only [Option.some.injEq, Prod.mk.injEq] at h
  obtain ⟨rfl, rfl⟩ := h
  refine ⟨.tuple #[], w, ρ, ?_, .tuple .nil, hm, .refl _ _ _⟩
  simp [Builtin.clear_, zAh ht]
 ·rename_i b off len cap sz' hn
  rw [hn] at hs
  obtain ⟨h1, h2⟩ := zAF h
  cases hs with | slice hb a1 a2 a3 a4 =>
  rename_i i off' cap'
  split at h2
  ·simp only [Option.some.injEq, Prod.mk.injEq] at h2
   obtain ⟨rfl, rfl⟩ := h2
   refine ⟨.tuple #[], w, ρ, ?_, .tuple .nil, hm, .refl _ _ _⟩
   simp [Builtin.clear_, zAh ht]
  ·rename_i hne
   split at h2
   ·rename_i m1 hm1
    simp only [Option.some.injEq, Prod.mk.injEq] at h2
    obtain ⟨rfl, rfl⟩ := h2
    obtain ⟨z', z1, z2, _⟩ := zBK hz ρ w
    have hzsz : z'.cells.size ≠ 0 := by
     have := (z2.cells (zEr hz)).length
     simp only [Array.length_toList] at this
     omega
    have hnew : VRs ρ ((List.replicate len z.cells).flatten) (Builtin.zeroCells z'.cells len).toList := by
     unfold Builtin.zeroCells
     rw [cycleA z'.cells hzsz len]
     exact (z2.cells (zEr hz)).replicate len
    obtain ⟨w', q1, q2, q3⟩ := hm.write hb hm1 hnew P
    have hlen : len ≠ 0 := fun e => hne e
    have hoff := a3 (by omega)
    subst hoff
    refine ⟨.tuple #[], w', ρ, ?_, .tuple .nil, q2, q3⟩
    cases len with
    | zero => exact (hlen rfl).elim
    | succ len => simp [Builtin.clear_, zAh ht, z1, q1]
   ·cases h2
 ·cases h
theorem zDz {r : Nat} {es : Array MapEntry} {c : Nat} (h : w.heap[r]? = some (.map es c)) (o : Obj) : (setObj r o).run P w = .ok () { w with heap := w.heap.setIfInBounds r o } := by
 simp [setObj, Sem.run, h]
theorem MR.putMap (hm : MR ρ m w) {b : Nat} {i : Img} (hb : ρ b = some i) {es es2 : List (V × V × Nat)} {c c2 : Nat} (ho : m.get b = some (.map es c false)) {es' : Array MapEntry} (h1 : w.heap[i.b]? = some (.map es' c)) {es2' : Array MapEntry}
  (hr : ERs ρ es2 es2'.toList) : MR ρ (m.set b (.map es2 c2 false)) { w with heap := w.heap.setIfInBounds i.b (.map es2' c2) } ∧ Ext ρ m w ρ (m.set b (.map es2 c2 false)) { w with heap := w.heap.setIfInBounds i.b (.map es2' c2) } := by
 have hlt := (hm.lt b i hb).2
 refine hm.put hb ho rfl (by simp) ⟨rfl, rfl⟩ (fun k hk => ?_) ⟨es2', ?_, hr⟩
 ·simp [Array.getElem?_setIfInBounds_ne (fun e => hk e.symm)]
 ·simp [Array.getElem?_setIfInBounds, hlt]
theorem ERs.get {l : List (V × V × Nat)} {l' : List MapEntry} (h : ERs ρ l l') : ∀ (n : Nat) (e : V × V × Nat), l[n]? = some e → ∃ e' : MapEntry, l'[n]? = some e' ∧ VR ρ e.1 e'.key ∧ VR ρ e.2.1 e'.val ∧ e'.born = e.2.2 := by
 induction h with
 | nil => intro n e he; simp at he
 | cons hk hv _ ih =>
  intro n e he
  cases n with
  | zero => simp at he; subst he; exact ⟨_, rfl, hk, hv, rfl⟩
  | succ n => simpa using ih n e (by simpa using he)
theorem ERs.of_get : ∀ {l : List (V × V × Nat)} {l' : List MapEntry}, l.length = l'.length → (∀ (n : Nat) (e : V × V × Nat), l[n]? = some e → ∃ e' : MapEntry, l'[n]? = some e' ∧ VR ρ e.1 e'.key ∧ VR ρ e.2.1 e'.val ∧ e'.born = e.2.2) → ERs ρ l l'
 | [], [], _, _ => .nil
 | [], _ :: _, h, _ => by simp at h
 | _ :: _, [], h, _ => by simp at h
 | (k, v, b) :: l, ⟨k', v', b'⟩ :: l', h, hg => by
  obtain ⟨e', h1, h2, h3, h4⟩ := hg 0 (k, v, b) rfl
  simp at h1; subst h1
  simp only at h4; subst h4
  exact .cons h2 h3 (ERs.of_get (by simpa using h) fun n e he => by simpa using hg (n + 1) e (by simpa using he))
theorem ERs.append {l k : List (V × V × Nat)} {l' k' : List MapEntry} (h : ERs ρ l l') (h2 : ERs ρ k k') : ERs ρ (l ++ k) (l' ++ k') := by
 induction h with
 | nil => exact h2
 | cons a b _ ih => exact .cons a b ih
theorem ERs.modify {l : List (V × V × Nat)} {l' : List MapEntry} (h : ERs ρ l l') (i : Nat) (f : V × V × Nat → V × V × Nat) (f' : MapEntry → MapEntry)
  (hf : ∀ (e : V × V × Nat) (e' : MapEntry), VR ρ e.1 e'.key → VR ρ e.2.1 e'.val → e'.born = e.2.2 → VR ρ (f e).1 (f' e').key ∧ VR ρ (f e).2.1 (f' e').val ∧ (f' e').born = (f e).2.2) : ERs ρ (l.modify i f) (l'.modify i f') := by
 refine ERs.of_get (by simp [h.length]) ?_
 intro n e he
 rw [List.getElem?_modify] at he ⊢
 cases h0 : l[n]? with
 | none => rw [h0] at he; cases he
 | some e0 =>
  rw [h0] at he
  obtain ⟨e', h3, h4, h5, h6⟩ := h.get n e0 h0
  rw [h3]
  by_cases hi : i = n
  ·have he' : f e0 = e := by simpa [hi] using he
   subst he'
   obtain ⟨q1, q2, q3⟩ := hf e0 e' h4 h5 h6
   exact ⟨f' e', by simp [hi], q1, q2, q3⟩
  ·have he' : e0 = e := by simpa [hi] using he
   subst he'
   exact ⟨e', by simp [hi], h4, h5, h6⟩
theorem ERs.eraseIdx {l : List (V × V × Nat)} {l' : List MapEntry} (h : ERs ρ l l') (i : Nat) : ERs ρ (l.eraseIdx i) (l'.eraseIdx i) := by
 refine ERs.of_get ?_ ?_
 ·have := h.length
  rw [List.length_eraseIdx, List.length_eraseIdx, this]
 ·intro n e he
  rw [List.getElem?_eraseIdx] at he ⊢
  split at he
  ·rename_i hn; rw [if_pos hn]; exact h.get n e he
  ·rename_i hn; rw [if_neg hn]; exact h.get (n + 1) e he
theorem zGz {k : SK} {x y : V} {x' y' : Value} (hx : VR ρ x x') (hy : VR ρ y y') (h : eqS k x y = some true) (n : Nat) : Instr.sameBits n x' y' = true := by
 cases hx <;> cases k <;> simp only [eqS, reduceCtorEq] at h <;> cases hy <;> simp only [reduceCtorEq, Option.some.injEq] at h
 ·unfold Instr.sameBits; exact h
 ·rename_i k1 n1 k2 n2
  cases hk : zGw k1 k2 with
  | false => simp [hk] at h
  | true =>
   rw [hk, cond_true, Option.some.injEq, zDI, decide_eq_true_eq] at h
   have := zEA.1 hk
   subst this; subst h
   unfold Instr.sameBits
   simp
 ·have := zHX (zD3.1 h)
  subst this
  unfold Instr.sameBits
  rw [← zH1, zD3]
 ·rename_i b off i hi b2 off2 j hj
  cases hb : Nat.beq b b2 with
  | false => simp [hb] at h
  | true =>
   rw [hb, cond_true, Option.some.injEq] at h
   have e1 := zAL.1 hb
   have e2 := zAL.1 h
   subst e1; subst e2
   rw [hi] at hj; cases hj
   unfold Instr.sameBits
   simp
 ·unfold Instr.sameBits; simp
theorem zD9 : ∀ {ks : List SK} {xs ys : List V} {xs' ys' : List Value}, VRs ρ xs xs' → VRs ρ ys ys' → zAM ks xs ys = some true → ∀ n, xs'.length = ys'.length ∧ (xs'.zip ys').all (fun (x, y) => Instr.sameBits n x y) = true
 | [], _, _, _, _, .nil, .nil, _, _ => ⟨rfl, rfl⟩
 | [], _, _, _, _, .nil, .cons _ _, h, _ => by simp [zAM] at h
 | [], _, _, _, _, .cons _ _, _, h, _ => by simp [zAM] at h
 | _ :: _, _, _, _, _, .nil, _, h, _ => by simp [zAM] at h
 | _ :: _, _, _, _, _, .cons _ _, .nil, h, _ => by simp [zAM] at h
 | k :: ks, _, _, _, _, .cons hx hxs, .cons hy hys, h, n => by
  simp only [zAM] at h
  split at h
  ·rename_i he
   obtain ⟨h1, h2⟩ := zD9 hxs hys h n
   refine ⟨by simp [h1], ?_⟩
   rw [List.zip_cons_cons, List.all_cons, h2, Bool.and_true]
   exact zGz hx hy he n
  ·split at h <;> simp at h
  ·cases h
theorem zIf {kt : KT} {x y : V} {x' y' : Value} (hx : VR ρ x x') (hy : VR ρ y y') (h : zFG kt x y = some true) (n : Nat) : Instr.sameBits (n + 1) x' y' = true := by
 unfold zFG at h
 split at h
 ·exact zGz hx hy h (n + 1)
 ·split at h
  ·cases hx with | agg hx => cases hy with | agg hy =>
   obtain ⟨h1, h2⟩ := zD9 hx hy h n
   unfold Instr.sameBits
   simp only [List.size_toArray, h1, beq_self_eq_true, Bool.true_and]
   exact h2
  ·cases h
theorem findE_at {kt : KT} {x : V} : ∀ {es : List (V × V × Nat)} {i j : Nat} {v : V}, zFO kt x es i = some (some (j, v)) → i ≤ j ∧ ∃ e, es[j - i]? = some e ∧ e.2.1 = v ∧ zFG kt x e.1 = some true
 | [], i, j, v, h => by simp [zFO] at h
 | (k, u, b) :: es, i, j, v, h => by
  simp only [zFO] at h
  split at h
  ·rename_i he
   simp only [Option.some.injEq, Prod.mk.injEq] at h
   obtain ⟨rfl, rfl⟩ := h
   exact ⟨Nat.le_refl _, (k, u, b), by simp, rfl, he⟩
  ·obtain ⟨h1, e, h2, h3, h4⟩ := findE_at h
   refine ⟨by omega, e, ?_, h3, h4⟩
   rw [show j - i = (j - (i + 1)) + 1 by omega, List.getElem?_cons_succ]
   exact h2
  ·cases h
theorem keyStays {x y : Value} (h : Instr.sameBits 10000 x y = true) : (Instr.keyThatStays x y).run P w = .ok y w := by
 unfold Instr.keyThatStays
 rw [if_pos h]
 rfl
end
end Go.AM
namespace Go.AM
open Go
section
variable {P : Program} {ρ : Ren} {nt : Nat} {T : zAa} {a : Act} {m : Mem} {w : World}
theorem eqS_symm {k : SK} {x y : V} (h : eqS k x y = some true) : eqS k y x = some true := by
 unfold eqS at h
 split at h
 ·simp only [Option.some.injEq, beq_iff_eq] at h; subst h; simp [eqS]
 ·rename_i j a k b
  cases hk : zGw j k with
  | false => simp [hk] at h
  | true =>
   rw [hk, cond_true, Option.some.injEq, zDI, decide_eq_true_eq] at h
   have := zEA.1 hk
   subst this; subst h
   simp [eqS, hk, zDI]
 ·simp only [Option.some.injEq] at h
  have := zD3.1 h
  subst this
  simp [eqS, h]
 ·rfl
 ·cases h
 ·cases h
 ·rename_i a i b j
  cases hb : Nat.beq a b with
  | false => simp [hb] at h
  | true =>
   rw [hb, cond_true, Option.some.injEq] at h
   have e1 := zAL.1 hb
   have e2 := zAL.1 h
   subst e1; subst e2
   simp [eqS]
 ·cases h
theorem zGA : ∀ {ks : List SK} {xs ys : List V}, zAM ks xs ys = some true → zAM ks ys xs = some true
 | [], [], [], _ => rfl
 | [], [], _ :: _, h => by simp [zAM] at h
 | [], _ :: _, _, h => by simp [zAM] at h
 | _ :: _, [], _, h => by simp [zAM] at h
 | _ :: _, _ :: _, [], h => by simp [zAM] at h
 | k :: ks, x :: xs, y :: ys, h => by
  simp only [zAM] at h
  split at h
  ·rename_i he
   simp only [zAM, eqS_symm he]
   exact zGA h
  ·split at h <;> simp at h
  ·cases h
theorem keyEq_symm {kt : KT} {x y : V} (h : zFG kt x y = some true) : zFG kt y x = some true := by
 unfold zFG at h
 split at h
 ·exact eqS_symm h
 ·split at h
  ·exact zGA h
  ·cases h
theorem ERs.single {k v : V} {k' v' : Value} (hk : VR ρ k k') (hv : VR ρ v v') (b : Nat) : ERs ρ [(k, v, b)] [{ key := k', val := v', born := b }] := .cons hk hv .nil
theorem sMset (hm : MR ρ m w) {t k e : TypeId} (hu : P.underlying t = some (.map k e)) {kt : KT} (hk : KTok P k kt) {mp ky x : Opd} {mp' ky' x' : Value} (hmp : VR ρ (ev T mp) mp') (hky : VR ρ (ev T ky) ky') (hx : VR ρ (ev T x) x')
  {v : V} {m' : Mem} (h : zB3 kt mp ky x T m = some (v, m')) : v = .undef ∧ LoudU P ρ m w m' (Instr.mapUpdate t mp' ky' x') := by
 unfold zB3 at h
 split at h
 ·rename_i b hst
  rw [hst] at hmp
  cases hmp with | map hb =>
  rename_i i
  split at h
  ·rename_i es c ho
   obtain ⟨es', h1, h2⟩ := hm.obj _ _ _ hb ho
   split at h
   ·rename_i j v0 hf
    simp only [Option.some.injEq, Prod.mk.injEq] at h
    obtain ⟨rfl, rfl⟩ := h
    obtain ⟨h3, r', h4, h5⟩ := zCx (P := P) (w := w) hk hky h2 hf false
    cases r' with
    | none => exact h5.elim
    | some q =>
     obtain ⟨j', v'⟩ := q
     have hj := h5.1
     subst hj
     obtain ⟨_, e0, f1, _, f3⟩ := findE_at (zAF hf).2
     obtain ⟨e', f4, f5, _, _⟩ := h2.get _ e0 f1
     simp only [Nat.sub_zero] at f4
     have hsb2 : Instr.sameBits 10000 e'.key ky' = true := zIf (n := 9999) f5 hky (keyEq_symm f3)
     obtain ⟨q1, q2⟩ := hm.putMap hb ho h1 (es2 := es.modify j fun e => (ev T ky, ev T x, e.2.2)) (es2' := es'.modify j fun e => { e with key := ky', val := x' }) (c2 := c) (by
      rw [Array.toList_modify]
      exact h2.modify j _ _ fun e e' _ _ hb => ⟨hky, hx, hb⟩)
     refine ⟨rfl, _, ρ, ?_, q1, q2⟩
     simp only [Instr.mapUpdate, Sem.run_bind, zAh hu, Result.andThen_ok, zBE h1, h3, h4]
     rw [Array.getElem?_toList] at f4
     simp only [f4, Option.map_some, Option.getD_some, keyStays hsb2, Result.andThen_ok, zDz h1]
   ·rename_i hf
    simp only [Option.some.injEq, Prod.mk.injEq] at h
    obtain ⟨rfl, rfl⟩ := h
    obtain ⟨h3, r', h4, h5⟩ := zCx (P := P) (w := w) hk hky h2 hf false
    cases r' with
    | some q => exact h5.elim
    | none =>
     obtain ⟨q1, q2⟩ := hm.putMap hb ho h1 (es2 := es ++ [(ev T ky, ev T x, c)]) (es2' := es'.push { key := ky', val := x', born := c }) (c2 := c + 1) (by
      rw [Array.toList_push]
      exact h2.append (.single hky hx c))
     refine ⟨rfl, _, ρ, ?_, q1, q2⟩
     simp only [Instr.mapUpdate, Sem.run_bind, zAh hu, Result.andThen_ok, zBE h1, h3, h4, zDz h1]
   ·cases h
  ·cases h
 ·cases h
theorem sMdel (hm : MR ρ m w) {t k e : TypeId} (ty : TypeId) {u : TypeId} (hu : P.underlying t = some (.map k e)) {kt : KT} (hk : KTok P k kt) {mp ky : Opd} {mp' ky' : Value} (hmp : VR ρ (ev T mp) mp') (hky : VR ρ (ev T ky) ky')
  {v : V} {m' : Mem} (h : zCp kt mp ky T m = some (v, m')) : Loud P ρ m w v m' (Builtin.delete_ #[t, u] ty #[mp', ky']) := by
 unfold zCp at h
 split at h
 ·rename_i hst
  rw [hst] at hmp
  cases hmp
  obtain ⟨h1, h2⟩ := zAF h
  simp only [Option.some.injEq, Prod.mk.injEq] at h2
  obtain ⟨rfl, rfl⟩ := h2
  have hck : (Instr.checkKey true 10000 k ky').run P w = .ok () w := by
   refine zEn hk hky ?_ true w
   unfold keyOk at h1
   cases kt with
   | one k => trivial
   | many ks =>
    simp only at h1 ⊢
    split at h1
    ·rename_i cs hc; exact ⟨cs, hc, zAL.1 h1⟩
    ·cases h1
  refine ⟨.tuple #[], w, ρ, ?_, .tuple .nil, hm, .refl _ _ _⟩
  simp only [Builtin.delete_, List.getElem?_toArray, List.getElem?_cons_zero, List.getElem?_cons_succ, Sem.run_bind, zAh hu, Result.andThen_ok, hck, Sem.run_pure]
 ·rename_i b hst
  rw [hst] at hmp
  cases hmp with | map hb =>
  rename_i i
  split at h
  ·rename_i es c ho
   obtain ⟨es', h1, h2⟩ := hm.obj _ _ _ hb ho
   split at h
   ·rename_i j v0 hf
    simp only [Option.some.injEq, Prod.mk.injEq] at h
    obtain ⟨rfl, rfl⟩ := h
    obtain ⟨h3, r', h4, h5⟩ := zCx (P := P) (w := w) hk hky h2 hf es'.isEmpty
    cases r' with
    | none => exact h5.elim
    | some q =>
     obtain ⟨j', v'⟩ := q
     have hj := h5.1
     subst hj
     obtain ⟨q1, q2⟩ := hm.putMap hb ho h1 (es2 := es.eraseIdx j) (es2' := es'.eraseIdxIfInBounds j) (c2 := c) (by
      rw [Array.toList_eraseIdxIfInBounds]
      exact h2.eraseIdx j)
     refine ⟨.tuple #[], _, ρ, ?_, .tuple .nil, q1, q2⟩
     simp only [Builtin.delete_, List.getElem?_toArray, List.getElem?_cons_zero, List.getElem?_cons_succ, Sem.run_bind, zAh hu, Result.andThen_ok, zBE h1, h3, h4, zDz h1, Sem.run_pure]
   ·rename_i hf
    simp only [Option.some.injEq, Prod.mk.injEq] at h
    obtain ⟨rfl, rfl⟩ := h
    obtain ⟨h3, r', h4, h5⟩ := zCx (P := P) (w := w) hk hky h2 hf es'.isEmpty
    cases r' with
    | some q => exact h5.elim
    | none =>
     have hlt := (hm.lt b i hb).2
     have hself : w.heap.setIfInBounds i.b (.map es' c) = w.heap := by
      apply Array.ext_getElem?
      intro n
      rw [Array.getElem?_setIfInBounds]
      by_cases hn : i.b = n
      ·subst hn
       simp only [if_true, hlt, h1]
      ·simp [hn]
     refine ⟨.tuple #[], w, ρ, ?_, .tuple .nil, hm, .refl _ _ _⟩
     simp only [Builtin.delete_, List.getElem?_toArray, List.getElem?_cons_zero, List.getElem?_cons_succ, Sem.run_bind, zAh hu, Result.andThen_ok, zBE h1, h3, h4, zDz h1, Sem.run_pure, hself]
   ·cases h
  ·cases h
 ·cases h
theorem sClrM (hm : MR ρ m w) {t k e : TypeId} (ty : TypeId) (hu : P.underlying t = some (.map k e)) {mp : Opd} {mp' : Value} (hmp : VR ρ (ev T mp) mp')
  {v : V} {m' : Mem} (h : lClrM mp T m = some (v, m')) : Loud P ρ m w v m' (Builtin.clear_ #[t] ty #[mp']) := by
 unfold lClrM at h
 split at h
 ·rename_i hst
  rw [hst] at hmp
  cases hmp
  simp only [Option.some.injEq, Prod.mk.injEq] at h
  obtain ⟨rfl, rfl⟩ := h
  refine ⟨.tuple #[], w, ρ, ?_, .tuple .nil, hm, .refl _ _ _⟩
  simp [Builtin.clear_, zAh hu]
 ·rename_i b hst
  rw [hst] at hmp
  cases hmp with | map hb =>
  split at h
  ·rename_i es c ho
   simp only [Option.some.injEq, Prod.mk.injEq] at h
   obtain ⟨rfl, rfl⟩ := h
   obtain ⟨es', h1, h2⟩ := hm.obj _ _ _ hb ho
   obtain ⟨q1, q2⟩ := hm.putMap hb ho h1 (es2 := []) (es2' := #[]) (c2 := c) .nil
   refine ⟨.tuple #[], _, ρ, ?_, .tuple .nil, q1, q2⟩
   simp only [Builtin.clear_, List.getElem?_toArray, List.getElem?_cons_zero, Sem.run_bind, zAh hu, Result.andThen_ok, zBE h1, zDz h1, Sem.run_pure]
  ·cases h
 ·cases h
theorem sRng (hm : MR ρ m w) {t k e : TypeId} (hu : P.underlying t = some (.map k e)) {x : Opd} {x' : Value} (hx : VR ρ (ev T x) x') {v : V} {m' : Mem} (h : lRng x T m = some (v, m')) : Loud P ρ m w v m' (Instr.range t x') := by
 have hfree : ρ m.next = none := by
  cases e : ρ m.next with
  | none => rfl
  | some i => have := (hm.lt _ _ e).1; omega
 unfold lRng at h
 split at h
 ·rename_i hst
  rw [hst] at hx
  cases hx
  simp only [Option.some.injEq, Prod.mk.injEq] at h
  obtain ⟨rfl, rfl⟩ := h
  obtain ⟨q1, q2⟩ := hm.alloc (o := .iter none 0 [] 0) (o' := .mapIter none 0 #[] 0) (w' := { w with heap := w.heap.push (.mapIter none 0 #[] 0) }) ⟨rfl, rfl, rfl⟩ (n := 0) (by simp [OR])
  refine ⟨.pointer (some ⟨w.heap.size, 0, none⟩), _, _, ?_, .ptr (i := ⟨w.heap.size, 0, 0, none⟩) (off := 0) (Ren.put_self _ _ _), q1, q2⟩
  simp [Instr.range, zAh hu]
 ·rename_i b hst
  rw [hst] at hx
  cases hx with | map hb =>
  rename_i i
  split at h
  ·rename_i es c ro ho
   simp only [Option.some.injEq, Prod.mk.injEq] at h
   obtain ⟨rfl, rfl⟩ := h
   obtain ⟨es', h1, h2⟩ := hm.obj _ _ _ hb ho
   obtain ⟨q1, q2⟩ := hm.alloc (o := .iter (some b) c [] c) (o' := .mapIter (some i.b) c #[] c) (w' := { w with heap := w.heap.push (.mapIter (some i.b) c #[] c) }) ⟨rfl, rfl, rfl⟩ (n := 0) ⟨rfl, i, Ren.le_put hfree _ _ hb, by simp⟩
   refine ⟨.pointer (some ⟨w.heap.size, 0, none⟩), _, _, ?_, .ptr (i := ⟨w.heap.size, 0, 0, none⟩) (off := 0) (Ren.put_self _ _ _), q1, q2⟩
   simp [Instr.range, zAh hu, zBE h1]
  ·cases h
 ·cases h
end
end Go.AM
namespace Go.AM
open Go
section
variable {P : Program} {ρ : Ren} {nt : Nat} {T : zAa} {a : Act} {m : Mem} {w : World}
theorem zFg {r : Nat} {mo : Option Nat} {since : Nat} {seen : Array Nat} {st : Nat} (h : w.heap[r]? = some (.mapIter mo since seen st)) : (getObj r).run P w = .ok (.mapIter mo since seen st) w := by
 simp [getObj, Sem.run, h]
theorem ERs.find {l : List (V × V × Nat)} {l' : List MapEntry} (h : ERs ρ l l') (s : Nat) {e : V × V × Nat} (he : l.find? (fun e => Nat.beq e.2.2 s) = some e) :
  ∃ e', l'.find? (fun e => e.born == s) = some e' ∧ VR ρ e.1 e'.key ∧ VR ρ e.2.1 e'.val := by
 induction h with
 | nil => simp at he
 | cons hk hv _ ih =>
  rename_i k v k' v' b l l' _
  rw [List.find?_cons] at he ⊢
  by_cases hb : b = s
  ·simp only [zCG hb, Option.some.injEq] at he
   subst he
   exact ⟨{ key := k', val := v', born := b }, by simp [hb], hk, hv⟩
  ·simp only [zAS hb] at he
   obtain ⟨e', h1, h2⟩ := ih he
   refine ⟨e', ?_, h2⟩
   have : (b == s) = false := by simpa using hb
   simp only [this]
   exact h1
theorem sEntry (hm : MR ρ m w) {it : Opd} {it' : Value} (hi : VR ρ (ev T it) it') {v : V} (h : zHf it T m = some v) : ∃ v', (Instr.entry it').run P w = .ok v' w ∧ VR ρ v v' := by
 unfold zHf at h
 split at h
 ·rename_i b hst
  rw [hst] at hi
  cases hi with | ptr hb =>
  rename_i i
  split at h
  ·rename_i mb since seen stepped ho
   obtain ⟨hd, j, h1, h2⟩ := hm.obj _ _ _ hb ho
   unfold entryV at h
   split at h
   ·rename_i stamp es c ro hse hmo
    obtain ⟨hc, h⟩ := zAF h
    split at h
    ·rename_i e he
     simp only [Option.some.injEq] at h; subst h
     obtain ⟨es', h3, h4⟩ := hm.obj _ _ _ h1 hmo
     obtain ⟨e', h5, h6, h7⟩ := h4.find stamp he
     have hcs := zAL.1 hc
     refine ⟨.tuple #[e'.key, e'.val], ?_, .tuple (.cons h6 (.cons h7 .nil))⟩
     have hback : seen.toArray.back? = some stamp := by rw [List.back?_toArray]; exact hse
     have hne : (c != stepped) = false := by simp [hcs]
     have hfind : es'.find? (fun e => e.born == stamp) = some e' := by rw [← Array.find?_toList]; exact h5
     simp only [Instr.entry, hd, Nat.zero_add, Sem.run_bind, zFg h2, Result.andThen_ok, hback, zBE h3, hne, Bool.false_eq_true, if_false, hfind, Sem.run_pure]
    ·cases h
   ·cases h
  ·cases h
 ·cases h
theorem ERs.filter {l : List (V × V × Nat)} {l' : List MapEntry} (h : ERs ρ l l') (p : Nat → Bool) : ERs ρ (l.filter fun e => p e.2.2) (l'.filter fun e => p e.born) := by
 induction h with
 | nil => exact .nil
 | cons hk hv _ ih =>
  rename_i b l l' _
  rw [List.filter_cons, List.filter_cons]
  by_cases hb : p b = true
  ·simp only [hb, if_true]; exact .cons hk hv ih
  ·simp only [hb, if_false, Bool.false_eq_true]; exact ih
theorem ERs.all {l : List (V × V × Nat)} {l' : List MapEntry} (h : ERs ρ l l') (s : Nat) : l'.all (fun e => decide (e.born ≥ s)) = l.all (fun e => Nat.ble s e.2.2) := by
 induction h with
 | nil => rfl
 | cons _ _ _ ih =>
  rw [List.all_cons, List.all_cons, ih]
  congr 1
  rw [Bool.eq_iff_iff, decide_eq_true_iff, zAA]
theorem choose_lt (k : Nat) (hk : 0 < k) : ∃ n w', (choose (.mapNext k)).run P w = .ok n w' ∧ w'.heap = w.heap ∧ zH8 w w' ∧ n < k := by
 rw [run_choose]
 by_cases h1 : k ≤ 1
 ·exact ⟨0, w, by simp [Question.forced, h1], rfl, zH8.refl w, hk⟩
 ·refine ⟨w.tape w.drawn (.mapNext k) % k, w.drew, ?_, rfl, ⟨rfl, rfl⟩, Nat.mod_lt _ hk⟩
  simp only [Question.forced, h1, decide_false, Bool.false_eq_true, if_false]
  rfl
theorem sNext (hm : MR ρ m w) {it : V} {it' : Value} (hi : VR ρ it it') (ty : TypeId) {l : List (V × Mem)} (h : nextS m it = some l) : ∃ vm ∈ l, Loud P ρ m w vm.1 vm.2 (Instr.next it' false ty) := by
 unfold nextS at h
 split at h
 ·rename_i r
  cases hi with | ptr hb =>
  rename_i i
  split at h
  ·rename_i since seen stepped ho
   simp only [Option.some.injEq] at h; subst h
   obtain ⟨hd, h2⟩ := hm.obj _ _ _ hb ho
   refine ⟨_, List.mem_singleton_self _, .tuple #[.bool false], w, ρ, ?_, .tuple (.cons (.bool _) .nil), hm, .refl _ _ _⟩
   simp only [Instr.next, hd, Nat.zero_add, Sem.run_bind, zFg h2, Result.andThen_ok, Sem.run_pure]
  ·rename_i mb since seen stepped ho
   obtain ⟨hd, j, h1, h2⟩ := hm.obj _ _ _ hb ho
   split at h
   ·rename_i es c ro hmo
    obtain ⟨es', h3, h4⟩ := hm.obj _ _ _ h1 hmo
    cases hbad : (!seen.isEmpty && !es.isEmpty && es.all (fun e => Nat.ble stepped e.2.2)) with
    | true => simp [hbad] at h
    | false =>
     simp only [hbad, cond_false] at h
     have hbad' : (!seen.toArray.isEmpty && !es'.isEmpty && es'.all (fun e => decide (e.born ≥ stepped))) = false := by
      rw [← hbad]
      have e1 : seen.toArray.isEmpty = seen.isEmpty := by simp
      have e2 : es'.isEmpty = es.isEmpty := by
       rw [← Array.isEmpty_toList]
       have := h4.length
       cases es <;> cases hq : es'.toList <;> simp_all
      have e3 : es'.all (fun e => decide (e.born ≥ stepped)) = es.all (fun e => Nat.ble stepped e.2.2) := by
       rw [← Array.all_toList]
       exact ERs.all h4 stepped
      rw [e1, e2, e3]
     obtain ⟨hold, h⟩ := zAF h
     have hleft := h4.filter (fun b => !seen.contains b)
     have hleftA : (es'.filter fun e => !seen.toArray.contains e.born).toList = es'.toList.filter fun e => !seen.contains e.born := by
      simp
     generalize hL' : (es'.filter fun e => !seen.toArray.contains e.born) = L' at hleftA
     generalize hL : (es.filter fun e => !seen.contains e.2.2) = L at hleft hold h
     rw [← hleftA] at hleft
     have hall : ∀ e ∈ L'.toList, e.born < since := by
      intro e he
      obtain ⟨n, hn, rfl⟩ := List.getElem_of_mem he
      have hlen := hleft.length
      have := hleft.get n (L[n]'(by omega)) (List.getElem?_eq_getElem (by omega))
      obtain ⟨e', q1, _, _, q4⟩ := this
      rw [List.getElem?_eq_getElem hn] at q1
      cases q1
      rw [q4]
      exact zAV.1 (List.all_eq_true.1 hold _ (List.getElem_mem _))
     have hOld : L'.filter (fun e => decide (e.born < since)) = L' := by
      rw [Array.filter_eq_self]
      intro e he
      exact decide_eq_true (hall e (Array.mem_toList_iff.2 he))
     have hNew : L'.filter (fun e => decide (e.born ≥ since)) = #[] := by
      rw [Array.filter_eq_empty_iff]
      intro e he
      have := hall e (Array.mem_toList_iff.2 he)
      simp; omega
     have start : (Instr.next (.pointer (some ⟨i.b, 0 + i.d, none⟩)) false ty).run P w =
       ((choose (.mapNext ((if L'.isEmpty then #[none] else #[]) ++ (L' ++ #[]).map some : Array (Option MapEntry)).size)).run P w).andThen fun n w1 =>
        (match ((if L'.isEmpty then #[none] else #[]) ++ (L' ++ #[]).map some : Array (Option MapEntry))[n]? with
         | some (some e) => do
          setObj i.b (.mapIter (some j.b) since (seen.toArray.push e.born) c)
          pure (.tuple #[.bool true, e.key, e.val])
         | some none => pure (.tuple #[.bool false])
         | none => stuck "Next: no such candidate" : Sem Value).run P w1 := by
      simp only [Instr.next, hd, Nat.zero_add, Sem.run_bind, zFg h2, Result.andThen_ok, zBE h3, hbad', Bool.false_eq_true, if_false, hL', hOld, hNew]
      congr 1
     split at h
     ·
      simp only [Option.some.injEq] at h; subst h
      have hL0 : L' = #[] := by
       have := hleft.length
       simp at this
       exact Array.eq_empty_of_size_eq_zero this.symm
      refine ⟨_, List.mem_singleton_self _, .tuple #[.bool false], w, ρ, ?_, .tuple (.cons (.bool _) .nil), hm, .refl _ _ _⟩
      rw [start, hL0]
      simp [Question.forced]
     ·rename_i hne
      simp only [Option.some.injEq] at h; subst h
      have hlen := hleft.length
      have hpos : 0 < L'.size := by
       rw [← Array.length_toList, ← hlen]
       exact List.length_pos_iff.2 hne
      have hemp : L'.isEmpty = false := by
       cases hq : L'.isEmpty with
       | false => rfl
       | true => rw [Array.isEmpty_iff] at hq; rw [hq] at hpos; simp at hpos
      obtain ⟨n, w1, c1, c2, c2m, c3⟩ := choose_lt (P := P) (w := w) L'.size hpos
      have hnL : n < L.length := by rw [hlen]; simpa using c3
      obtain ⟨e', q1, q2, q3, q4⟩ := hleft.get n L[n] (List.getElem?_eq_getElem hnL)
      have hm1 := hm.heap c2
      have hiter1 : w1.heap[i.b]? = some (.mapIter (some j.b) since seen.toArray stepped) := by rw [c2]; exact h2
      have hlt := (hm1.lt _ _ hb).2
      let o' : Obj := .mapIter (some j.b) since (seen.toArray.push e'.born) c
      let w' : World := { w1 with heap := w1.heap.setIfInBounds i.b o' }
      obtain ⟨k1, k2⟩ := hm1.put hb ho (o' := .iter (some mb) since (seen ++ [L[n].2.2]) c) rfl (w' := w') (by simp [w']) ⟨rfl, rfl⟩
       (fun k hk => by simp [w', Array.getElem?_setIfInBounds_ne (fun e => hk e.symm)])
       ⟨hd, j, h1, by simp [w', o', Array.getElem?_setIfInBounds, hlt, q4]⟩
      refine ⟨_, List.mem_map.2 ⟨L[n], List.getElem_mem _, rfl⟩, .tuple #[.bool true, e'.key, e'.val], w', ρ, ?_, .tuple (.cons (.bool _) (.cons q2 (.cons q3 .nil))), k1, (Ext.heap c2 c2m).trans k2⟩
      rw [start]
      simp only [hemp, Bool.false_eq_true, if_false, Array.empty_append, Array.append_empty, Array.size_map, c1, Result.andThen_ok, Array.getElem?_map]
      rw [Array.getElem?_toList] at q1
      have hset : (setObj i.b o').run P w1 = .ok () w' := by simp [setObj, Sem.run, hiter1, w']
      simp only [q1, Option.map_some, Sem.run_bind]
      rw [show (setObj i.b (.mapIter (some j.b) since (seen.toArray.push e'.born) c)).run P w1 = .ok () w' from hset]
      rfl
   ·cases h
  ·cases h
 ·cases h
end
end Go.AM
namespace Go.AM
open Go
section
variable (P : Program) (nt : Nat)
def QuietOk (o : Oper) (f : zAa → Mem → Option V) : Prop :=
 ∀ (ρ : Ren) (T : zAa) (a : Act) (m : Mem) (w : World) (v : V), SR ρ nt T a.tmps → MR ρ m w → f T m = some v → ∃ v', (execOp a.eval o).run P w = .ok (.value v') w ∧ VR ρ v v'
def AllocOk (o : Oper) (f : zAa → Nat → Option (V × zAe)) : Prop :=
 ∀ (ρ : Ren) (T : zAa) (a : Act) (w : World) (nx : Nat) (v : V) (ob : zAe), SR ρ nt T a.tmps → f T nx = some (v, ob) →
  ∃ v' ob' w' n, (execOp a.eval o).run P w = .ok (.value v') w' ∧ Push w w' ob' ∧
   ∀ ρ' : Ren, ρ.le ρ' → ρ' nx = some ⟨w.heap.size, n, 0, none⟩ → VR ρ' v v' ∧ OR ρ' w' ⟨w.heap.size, n, 0, none⟩ ob
def GoesOn (o : Oper) (ρ : Ren) (a : Act) (m : Mem) (w : World) (v : V) (m' : Mem) : Prop :=
 ∃ nx v' w' ρ', (execOp a.eval o).run P w = .ok nx w' ∧ (nx = .value v' ∨ (nx = .skip ∧ v' = Go.undef)) ∧ VR ρ' v v' ∧ MR ρ' m' w' ∧ Ext ρ m w ρ' m' w'
def LoudOk (o : Oper) (f : zAa → Mem → Option (V × Mem)) : Prop :=
 ∀ (ρ : Ren) (T : zAa) (a : Act) (m : Mem) (w : World) (v : V) (m' : Mem), SR ρ nt T a.tmps → MR ρ m w → f T m = some (v, m') → GoesOn P o ρ a m w v m'
def NextOk (o : Oper) (it : Opd) : Prop :=
 ∀ (ρ : Ren) (T : zAa) (a : Act) (m : Mem) (w : World) (l : List (V × Mem)), SR ρ nt T a.tmps → MR ρ m w → nextS m (ev T it) = some l → ∃ vm ∈ l, GoesOn P o ρ a m w vm.1 vm.2
def CallOk (o : Oper) (f : Opd) (args : List Opd) : Prop :=
 ∀ (ρ : Ren) (T : zAa) (a : Act), SR ρ nt T a.tmps → ∃ f' args', VR ρ (ev T f) f' ∧ VRs ρ (Opd.evs T args) args' ∧
  execOp a.eval o = (do let d ← Deferred.ofValue f' ⟨args'⟩; invoke d.target d.args)
def Agree (o : Op) (T T' : zAa) : Prop := ∀ x ∈ o.operands, ∀ t, x = .tmp t → t < nt → T.get (zAW t) = T'.get (zAW t)
def Mono (f : zAa → Mem → Option V) : Prop := ∀ T m ob v, m.get m.next = none → f T m = some v → f T (m.new ob) = some v
def Stay (r : Bool) (f : zAa → Mem → Option V) : Prop := (r = false → ∀ T m m', f T m = f T m') ∧ Mono f
def zCD (o : Oper) : AOp → Prop
 | .quiet r f => QuietOk P nt o f ∧ (∀ T T', Agree nt o.op T T' → f T = f T') ∧ Stay r f
 | .alloc f => AllocOk P nt o f ∧ (∀ T T', Agree nt o.op T T' → f T = f T') ∧ ∀ T nx v ob, f T nx = some (v, ob) → (∃ off, v = .ptr nx off) ∨ (∃ a b c d, v = .slice nx a b c d) ∨ v = .map nx
 | .loud f => LoudOk P nt o f ∧ (∀ T T', Agree nt o.op T T' → f T = f T')
 | .next it => NextOk P nt o it ∧ (∀ T T', Agree nt o.op T T' → ev T it = ev T' it)
 | .call f args => CallOk nt o f args ∧ (∀ T T', Agree nt o.op T T' → ev T f = ev T' f ∧ Opd.evs T args = Opd.evs T' args)
end
section
variable {P : Program} {nt : Nat}
theorem stay {f : zAa → Mem → Option V} (h : ∀ T m m', f T m = f T m') : Stay false f := ⟨fun _ => h, fun T m ob v _ hv => by rw [h T (m.new ob) m]; exact hv⟩
theorem zDH {m : Mem} (hf : m.get m.next = none) {b : Nat} {o : zAe} (ho : m.get b = some o) (ob : zAe) : (m.new ob).get b = some o := by
 rw [Mem.get_new]
 split
 ·rename_i e; subst e; rw [hf] at ho; cases ho
 ·exact ho
theorem zD2 {m : Mem} (hf : m.get m.next = none) {b : Nat} {cs : List V} (h : zCz m b = some cs) (ob : zAe) : zCz (m.new ob) b = some cs := by
 unfold zCz at *
 cases ho : m.get b with
 | none => rw [ho] at h; cases h
 | some o => rw [ho] at h; rw [zDH hf ho]; exact h
theorem zHc {m : Mem} (hf : m.get m.next = none) {b off n : Nat} {cs : List V} (h : zHd m b off n = some cs) (ob : zAe) : zHd (m.new ob) b off n = some cs := by
 unfold zHd at *
 cases ho : zCz m b with
 | none => rw [ho] at h; cases h
 | some o => rw [ho] at h; rw [zD2 hf ho]; exact h
theorem mono_load1 (x : Opd) : Mono (zB0 x) := by
 intro T m ob v hf h
 unfold zB0 at *
 split at h
 ·rename_i b off hb
  split at h
  ·rename_i cs hc
   rw [zD2 hf hc]; exact h
  ·cases h
 ·cases h
theorem mono_loadN (n : Nat) (x : Opd) : Mono (zDC n x) := by
 intro T m ob v hf h
 unfold zDC at *
 split at h
 ·rename_i b off hb
  split at h
  ·rename_i cs hc
   rw [zHc hf hc]; exact h
  ·cases h
 ·cases h
theorem mono_b2s (x : Opd) : Mono (qB2s x) := by
 intro T m ob v hf h
 unfold qB2s at *
 split at h
 ·exact h
 ·rename_i b off n _ _ hb
  split at h
  ·rename_i cs hc
   rw [zHc hf hc]; exact h
  ·cases h
 ·cases h
theorem mono_lenM (x : Opd) : Mono (zCw x) := by
 intro T m ob v hf h
 unfold zCw at *
 split at h
 ·exact h
 ·rename_i b hb
  split at h
  ·rename_i es c r hc
   rw [zDH hf hc]; exact h
  ·cases h
 ·cases h
theorem mono_look (kt : KT) (ok : Bool) (z : V) (mp k : Opd) : Mono (zGb kt ok z mp k) := by
 intro T m ob v hf h
 unfold zGb at *
 simp only at *
 split at h
 ·exact h
 ·rename_i b hb
  split at h
  ·rename_i es c r hc
   rw [zDH hf hc]; exact h
  ·cases h
 ·cases h
theorem mono_slcA (n sz : Nat) (x : Opd) (lo hi mx : Option Opd) : Mono (zIW n sz x lo hi mx) := by
 intro T m ob v hf h
 unfold zIW at *
 split at h
 ·rename_i b off hb
  split at h
  ·rename_i cs hc
   rw [zD2 hf hc]; exact h
  ·cases h
 ·cases h
theorem mono_entry (x : Opd) : Mono (zHf x) := by
 intro T m ob v hf h
 unfold zHf at *
 split at h
 ·rename_i b hb
  split at h
  ·rename_i mb s seen st hc
   rw [zDH hf hc]
   simp only [entryV] at h ⊢
   split at h
   ·rename_i stamp es c r hs hm
    rw [hs, zDH hf hm]; exact h
   ·cases h
  ·cases h
 ·cases h
theorem zAC {o : Op} {T T' : zAa} (h : Agree nt o T T') {x : Operand} (hx : x ∈ o.operands) {y : Opd} (hy : opd nt x = some y) : ev T y = ev T' y := by
 cases x with
 | tmp t =>
  simp only [opd] at hy
  by_cases ht : t < nt
  ·rw [nbltT ht, cond_true, Option.some.injEq] at hy; subst hy
   exact h _ hx t rfl ht
  ·rw [nbltF ht, cond_false] at hy; cases hy
 | const v =>
  simp only [opd] at hy
  split at hy
  ·simp only [Option.some.injEq] at hy; subst hy; rfl
  ·cases hy
 | global g => simp [opd] at hy
 | func f => simp only [opd, Option.some.injEq] at hy; subst hy; rfl
theorem zEx {o : Op} {T T' : zAa} (h : Agree nt o T T') : ∀ {l : List Operand} {ys : List Opd}, (∀ x ∈ l, x ∈ o.operands) → zIY nt l = some ys → Opd.evs T ys = Opd.evs T' ys
 | [], ys, _, hy => by simp only [zIY, Option.some.injEq] at hy; subst hy; rfl
 | x :: l, ys, hl, hy => by
  simp only [zIY] at hy
  split at hy
  ·rename_i y ys' h1 h2
   simp only [Option.some.injEq] at hy; subst hy
   simp only [Opd.evs, zAC h (hl x List.mem_cons_self) h1, zEx h (fun z hz => hl z (List.mem_cons_of_mem _ hz)) h2]
  ·cases hy
theorem zCI {o : Op} {T T' : zAa} (h : Agree nt o T T') {x : Option Operand} (hx : ∀ z, x = some z → z ∈ o.operands) {y : Option Opd} (hy : zEy nt x = some y) (d : Nat) : bound T y d = bound T' y d := by
 cases y with
 | none => rfl
 | some y =>
  obtain ⟨z, h1, h2⟩ := opdO_some hy
  simp only [bound, zAC h (hx z h1) h2]
theorem zGU {o : Op} {T T' : zAa} (h : Agree nt o T T') : ∀ (parts : List (Nat × Operand)) (parts' : List (Nat × Nat × Opd)), (∀ p ∈ parts, p.2 ∈ o.operands) →
  zET (fun (p : Nat × Operand) (q : Nat × Nat × Opd) => opd nt p.2 = some q.2.2) parts parts' → ∀ cs, zIg T cs parts' = zIg T' cs parts'
 | _, _, _, .nil, cs => rfl
 | p :: ps, (off, n, y) :: ps', hm, .cons hp hps, cs => by
  simp only [zIg, zAC h (hm p List.mem_cons_self) hp]
  congr 1
  split
  ·exact zGU h ps ps' (fun q hq => hm q (List.mem_cons_of_mem _ hq)) hps _
  ·rfl
variable (dst : Option Tmp) (ty : TypeId) (pos : String) (af : Array Edge) (g : Option (Nat × Bool))
theorem ok_mov {x : Operand} {y : Opd} (hy : opd nt x = some y) (op : Op) (hop : op = .move x ∨ op = .assign x) : zCD P nt ⟨dst, op, ty, pos, af, g⟩ (.quiet false (zA3 y)) := by
 refine ⟨fun ρ T a m w v hs hm h => ?_, fun T T' hag => ?_, stay fun _ _ _ => rfl⟩
 ·simp only [zA3, Option.some.injEq] at h; subst h
  exact ⟨a.eval x, by rcases hop with rfl | rfl <;> rfl, zAk hs hy⟩
 ·funext m
  simp only [zA3, zAC hag (by rcases hop with rfl | rfl <;> simp [Op.operands]) hy]
theorem ok_pick {c x y : Operand} {c' x' y' : Opd} (hc : opd nt c = some c') (hx : opd nt x = some x') (hy : opd nt y = some y') : zCD P nt ⟨dst, .pick c x y, ty, pos, af, g⟩ (.quiet false (zC6 c' x' y')) := by
 refine ⟨fun ρ T a m w v hs hm h => sPick (zAk hs hc) (zAk hs hx) (zAk hs hy) h, fun T T' hag => ?_, stay fun _ _ _ => rfl⟩
 funext m
 simp only [zC6, zAC hag (by simp [Op.operands]) hc, zAC hag (by simp [Op.operands]) hx, zAC hag (by simp [Op.operands]) hy]
theorem zEP {o : Oper} {f : zAa → Nat → Option (V × zAe)} (s : Act → Sem Value) (he : ∀ a, execOp a.eval o = (do pure (Next.value (← s a))))
  (h : ∀ (ρ : Ren) (T : zAa) (a : Act) (w : World) (nx : Nat) (v : V) (ob : zAe), SR ρ nt T a.tmps → f T nx = some (v, ob) → Laid P ρ w nx v ob (s a)) : AllocOk P nt o f := by
 intro ρ T a w nx v ob hs hf
 obtain ⟨v', ob', w', n, h1, h2, h3⟩ := h ρ T a w nx v ob hs hf
 exact ⟨v', ob', w', n, by rw [he]; exact zEt h1, h2, h3⟩
theorem zEi {o : Oper} {f : zAa → Mem → Option (V × Mem)} (s : Act → Sem Value) (he : ∀ a, execOp a.eval o = (do pure (Next.value (← s a))))
  (h : ∀ (ρ : Ren) (T : zAa) (a : Act) (m : Mem) (w : World) (v : V) (m' : Mem), SR ρ nt T a.tmps → MR ρ m w → f T m = some (v, m') → Loud P ρ m w v m' (s a)) : LoudOk P nt o f := by
 intro ρ T a m w v m' hs hm hf
 obtain ⟨v', w', ρ', h1, h2, h3, h4⟩ := h ρ T a m w v m' hs hm hf
 exact ⟨.value v', v', w', ρ', by rw [he]; exact zEt h1, .inl rfl, h2, h3, h4⟩
theorem zIA {o : Oper} {f : zAa → Mem → Option (V × Mem)} (s : Act → Sem Unit) (he : ∀ a, execOp a.eval o = (do s a; pure .skip))
  (h : ∀ (ρ : Ren) (T : zAa) (a : Act) (m : Mem) (w : World) (v : V) (m' : Mem), SR ρ nt T a.tmps → MR ρ m w → f T m = some (v, m') → v = .undef ∧ LoudU P ρ m w m' (s a)) : LoudOk P nt o f := by
 intro ρ T a m w v m' hs hm hf
 obtain ⟨rfl, w', ρ', h1, h3, h4⟩ := h ρ T a m w v m' hs hm hf
 exact ⟨.skip, Go.undef, w', ρ', by rw [he, Sem.run_bind, h1]; rfl, .inr ⟨rfl, rfl⟩, VR.undef ρ', h3, h4⟩
theorem zAE {o : Oper} {f : zAa → Mem → Option V} (s : Act → Sem Value) (he : ∀ a, execOp a.eval o = (do pure (Next.value (← s a))))
  (h : ∀ (ρ : Ren) (T : zAa) (a : Act) (m : Mem) (w : World) (v : V), SR ρ nt T a.tmps → MR ρ m w → f T m = some v → ∃ v', (s a).run P w = .ok v' w ∧ VR ρ v v') : QuietOk P nt o f := by
 intro ρ T a m w v hs hm hf
 obtain ⟨v', h1, h2⟩ := h ρ T a m w v hs hm hf
 exact ⟨v', by rw [he]; exact zEt h1, h2⟩
theorem box_shape {x : Opd} {T : zAa} {nx : Nat} {v : V} {ob : zAe} (h : zCs x T nx = some (v, ob)) : (∃ off, v = .ptr nx off) ∨ (∃ a b c d, v = .slice nx a b c d) ∨ v = .map nx := by
 unfold zCs at h
 split at h
 ·cases h
 ·simp only [Option.some.injEq, Prod.mk.injEq] at h
  exact .inl ⟨0, h.1.symm⟩
theorem ok_alloc {t : TypeId} {z : V} (hz : zB6 P t = some z) : zCD P nt ⟨dst, .alloc t, ty, pos, af, g⟩ (.alloc (zCs (.c z))) :=
 ⟨zEP (fun _ => Instr.alloc t true (.tuple #[])) (fun _ => rfl) fun _ _ _ _ _ _ _ _ h => sAllocZ hz h, fun _ _ _ => rfl, fun _ _ _ _ h => box_shape h⟩
theorem ok_box {t : TypeId} {x : Operand} {y : Opd} (hy : opd nt x = some y) : zCD P nt ⟨dst, .box t x, ty, pos, af, g⟩ (.alloc (zCs y)) :=
 ⟨zEP (fun a => Instr.box t (a.eval x)) (fun _ => rfl) fun _ _ _ _ _ _ _ hs h => sBox (zAk hs hy) t h,
  fun T T' hag => by funext nx; simp only [zCs, zAC hag (by simp [Op.operands]) hy], fun _ _ _ _ h => box_shape h⟩
theorem ok_buildS {t : TypeId} {parts : Array (Nat × Operand)} {zs : List V} {fs : Array Field} {ps : List (Nat × Nat × Opd)} (hz : zB6 P t = some (.agg zs)) (hu : P.underlying t = some (.struct fs))
  (hall : fs.all (fun f => (zBa P f.type).isSome) = true) (hp : zHl P nt fs parts.toList = some ps) : zCD P nt ⟨dst, .build t parts, ty, pos, af, g⟩ (.quiet false (zC7 zs ps)) :=
 ⟨zAE (fun a => Instr.build t (parts.map fun (i, x) => (i, a.eval x))) (fun _ => rfl) fun _ _ _ _ _ _ hs _ h => sBldS hu hall hs hz hp h,
  fun T T' hag => by
   funext m
   simp only [zC7, zGU hag parts.toList ps (fun p hp => by simp only [Op.operands, List.mem_toArray]; exact List.mem_map.2 ⟨p, hp, rfl⟩) (zET.imp (fun _ _ h => h.2) (zGc _ _ hp))],
  stay fun _ _ _ => rfl⟩
theorem ok_buildA {t e : TypeId} {k n : Nat} {parts : Array (Nat × Operand)} {zs : List V} {ps : List (Nat × Nat × Opd)} (hz : zB6 P t = some (.agg zs)) (hu : P.underlying t = some (.array k e))
  (hn : zBa P e = some n) (hp : zE0 nt n parts.toList = some ps) : zCD P nt ⟨dst, .build t parts, ty, pos, af, g⟩ (.quiet false (zC7 zs ps)) :=
 ⟨zAE (fun a => Instr.build t (parts.map fun (i, x) => (i, a.eval x))) (fun _ => rfl) fun _ _ _ _ _ _ hs _ h => sBldA hu hn hs hz hp h,
  fun T T' hag => by
   funext m
   simp only [zC7, zGU hag parts.toList ps (fun p hp => by simp only [Op.operands, List.mem_toArray]; exact List.mem_map.2 ⟨p, hp, rfl⟩) (zET.imp (fun _ _ h => h.2) (zDE _ _ hp))],
  stay fun _ _ _ => rfl⟩
theorem bsl_shape {sz len : Nat} {zs : List V} {ps : List (Nat × Nat × Opd)} {T : zAa} {nx : Nat} {v : V} {ob : zAe} (h : zF3 sz len zs ps T nx = some (v, ob)) : (∃ off, v = .ptr nx off) ∨ (∃ a b c d, v = .slice nx a b c d) ∨ v = .map nx := by
 unfold zF3 at h
 generalize zIg T (List.replicate len zs).flatten ps = q at h
 cases q with
 | none => cases h
 | some cs =>
  simp only [Option.some.injEq, Prod.mk.injEq] at h
  exact .inr (.inl ⟨0, len, len, sz, h.1.symm⟩)
theorem zIZ {t e : TypeId} {len sz : Nat} {z : V} {parts : Array (Nat × Operand)} {ps : List (Nat × Nat × Opd)} (hu : P.underlying t = some (.slice e)) (hsz : zBa P e = some sz) (hz : zB6 P e = some z)
  (hzl : z.cells.length = sz) (hsz0 : sz ≠ 0) (hbig : len * sz ≤ 16777216) (hp : zE0 nt sz parts.toList = some ps) : zCD P nt ⟨dst, .buildSlice t len parts, ty, pos, af, g⟩ (.alloc (zF3 sz len z.cells ps)) :=
 by
 unfold zCD
 refine ⟨?_, ?_, ?_⟩
 ·intro ρ T a w nx v ob hs h
  obtain ⟨v', ob', w', n, h1, h2, h3⟩ := sBsl (P := P) (w := w) (t := t) (e := e) (z := z) hu hsz hz hzl hsz0 hbig hs hp (pm := parts.map fun p => (p.1, a.eval p.2)) (by simp) h
  refine ⟨v', ob', w', n, ?_, h2, h3⟩
  have := zEt h1
  simp only [execOp]
  exact this
 ·intro T T' hag
  have hd := zGU hag parts.toList ps (fun p hp => by simp only [Op.operands, List.mem_toArray]; exact List.mem_map.2 ⟨p, hp, rfl⟩) (zET.imp (fun _ _ h => h.2) (zDE _ _ hp))
  funext nx
  unfold zF3
  rw [hd]
 ·intro T nx v ob h
  exact bsl_shape h
theorem ok_mset {t k e : TypeId} {kt : KT} {m0 k0 x0 : Operand} {m1 k1 x1 : Opd} (hu : P.underlying t = some (.map k e)) (hk : keyT P k = some kt) (hm : opd nt m0 = some m1) (hk1 : opd nt k0 = some k1) (hx : opd nt x0 = some x1)
  (op : Op) (hop : op = .insert t m0 k0 x0 ∨ op = .mapUpdate t m0 k0 x0) : zCD P nt ⟨dst, op, ty, pos, af, g⟩ (.loud (zB3 kt m1 k1 x1)) := by
 refine ⟨zIA (fun a => Instr.mapUpdate t (a.eval m0) (a.eval k0) (a.eval x0)) (fun a => by rcases hop with rfl | rfl <;> rfl)
  fun ρ T a m w v m' hs hmr h => sMset hmr hu (zCZ hk) (zAk hs hm) (zAk hs hk1) (zAk hs hx) h, fun T T' hag => ?_⟩
 funext m
 have hmem : ∀ x, x = m0 ∨ x = k0 ∨ x = x0 → x ∈ op.operands := by
  rintro x hx; rcases hop with rfl | rfl <;> rcases hx with rfl | rfl | rfl <;> simp [Op.operands]
 simp only [zB3, zAC hag (hmem m0 (.inl rfl)) hm, zAC hag (hmem k0 (.inr (.inl rfl))) hk1, zAC hag (hmem x0 (.inr (.inr rfl))) hx]
theorem ok_loadN {t : TypeId} {n : Nat} {x : Operand} {y : Opd} (ha : zFo P t = some true) (hn : zBa P t = some n) (hy : opd nt x = some y) : zCD P nt ⟨dst, .load t x, ty, pos, af, g⟩ (.quiet true (zDC n y)) :=
 ⟨zAE (fun a => Instr.loadAt t (a.eval x)) (fun _ => rfl) fun _ _ _ _ _ _ hs hm h => sLoadN hm ha hn (zAk hs hy) h,
  fun T T' hag => by funext m; simp only [zDC, zAC hag (by simp [Op.operands]) hy], ⟨fun h => (by cases h), mono_loadN _ _⟩⟩
theorem ok_load1 {t : TypeId} {x : Operand} {y : Opd} (ha : zFo P t = some false) (hy : opd nt x = some y) : zCD P nt ⟨dst, .load t x, ty, pos, af, g⟩ (.quiet true (zB0 y)) :=
 ⟨zAE (fun a => Instr.loadAt t (a.eval x)) (fun _ => rfl) fun _ _ _ _ _ _ hs hm h => sLoad1 hm ha (zAk hs hy) h,
  fun T T' hag => by funext m; simp only [zB0, zAC hag (by simp [Op.operands]) hy], ⟨fun h => (by cases h), mono_load1 _⟩⟩
theorem ok_sto {t : TypeId} {n : Nat} {x z : Operand} {x' z' : Opd} (hn : zBa P t = some n) (hx : opd nt x = some x') (hz : opd nt z = some z') : zCD P nt ⟨dst, .store t x z, ty, pos, af, g⟩ (.loud (zA0 n x' z')) :=
 ⟨zIA (fun a => Instr.storeAt t (a.eval x) (a.eval z)) (fun _ => rfl) fun _ _ _ _ _ _ _ hs hm h => sSto hm hn (zAk hs hx) (zAk hs hz) h,
  fun T T' hag => by funext m; simp only [zA0, zAC hag (by simp [Op.operands]) hx, zAC hag (by simp [Op.operands]) hz]⟩
theorem ok_nilck {x : Operand} {y : Opd} (hy : opd nt x = some y) : zCD P nt ⟨dst, .nilCheck x, ty, pos, af, g⟩ (.quiet false (zAd y)) :=
 ⟨fun ρ T a m w v hs hm h => ⟨a.eval x, sNilck (zAk hs hy) h dst x rfl ty pos af g⟩,
  fun T T' hag => by funext m; simp only [zAd, zAC hag (by simp [Op.operands]) hy], stay fun _ _ _ => rfl⟩
theorem ok_bin {op : BinOp} {t t2 : TypeId} {x z : Operand} {x' z' : Opd} (hx : opd nt x = some x') (hz : opd nt z = some z') : zCD P nt ⟨dst, .binOp op t x z t2, ty, pos, af, g⟩ (.quiet false (zAN op x' z')) :=
 ⟨zAE (fun a => do eqGuard op t x z (a.eval x) (a.eval z); binOp op t (a.eval x) (a.eval z)) (fun _ => rfl) fun _ _ _ _ w _ hs hm h => binV_sound w t (zAk hs hx) (zAk hs hz) h x z,
  fun T T' hag => by funext m; simp only [zAN, zAC hag (by simp [Op.operands]) hx, zAC hag (by simp [Op.operands]) hz], stay fun _ _ _ => rfl⟩
theorem ok_eqv {op : BinOp} {neg : Bool} (hop : (op = .eql ∧ neg = false) ∨ (op = .neq ∧ neg = true)) {t t2 : TypeId} {kt : KT} (hk : KTok P t kt)
  (hkt : match kt with | .one .int | .one .str => False | .many _ => P.eqGuardType P.depth t = false | _ => True) {x z : Operand} {x' z' : Opd} (hx : opd nt x = some x') (hz : opd nt z = some z') :
  zCD P nt ⟨dst, .binOp op t x z t2, ty, pos, af, g⟩ (.quiet false (qEqv neg kt x' z')) :=
 ⟨zAE (fun a => do eqGuard op t x z (a.eval x) (a.eval z); binOp op t (a.eval x) (a.eval z)) (fun _ => rfl) fun _ _ _ _ w _ hs hm h => sEqv hk hkt hop (zAk hs hx) (zAk hs hz) x z h,
  fun T T' hag => by funext m; simp only [qEqv, zAC hag (by simp [Op.operands]) hx, zAC hag (by simp [Op.operands]) hz], stay fun _ _ _ => rfl⟩
theorem ok_isnil1 {op : BinOp} {neg : Bool} (hop : (op = .eql ∧ neg = false) ∨ (op = .neq ∧ neg = true)) {t t2 : TypeId} {nk : NK} (hn : nilT P t = some nk) {x z : Operand} {x' : Opd} (hx : opd nt x = some x') (hz : zGx nk z = true) :
  zCD P nt ⟨dst, .binOp op t x z t2, ty, pos, af, g⟩ (.quiet false (zCN neg nk x')) :=
 ⟨zAE (fun a => do eqGuard op t x z (a.eval x) (a.eval z); binOp op t (a.eval x) (a.eval z)) (fun _ => rfl) fun _ _ _ _ w _ hs hm h => by
   have e := zHv hz
   subst e
   exact (sIsnil hn hop (zAk hs hx) h x).1,
  fun T T' hag => by funext m; simp only [zCN, zAC hag (by simp [Op.operands]) hx], stay fun _ _ _ => rfl⟩
theorem ok_isnil2 {op : BinOp} {neg : Bool} (hop : (op = .eql ∧ neg = false) ∨ (op = .neq ∧ neg = true)) {t t2 : TypeId} {nk : NK} (hn : nilT P t = some nk) {x z : Operand} {z' : Opd} (hz : opd nt z = some z') (hx : zGx nk x = true) :
  zCD P nt ⟨dst, .binOp op t x z t2, ty, pos, af, g⟩ (.quiet false (zCN neg nk z')) :=
 ⟨zAE (fun a => do eqGuard op t x z (a.eval x) (a.eval z); binOp op t (a.eval x) (a.eval z)) (fun _ => rfl) fun _ _ _ _ w _ hs hm h => by
   have e := zHv hx
   subst e
   exact (sIsnil hn hop (zAk hs hz) h z).2,
  fun T T' hag => by funext m; simp only [zCN, zAC hag (by simp [Op.operands]) hz], stay fun _ _ _ => rfl⟩
theorem ok_un {op : UnOp} {t : TypeId} {x : Operand} {y : Opd} (hy : opd nt x = some y) : zCD P nt ⟨dst, .unOp op t x, ty, pos, af, g⟩ (.quiet false (qUn op y)) :=
 ⟨zAE (fun a => Op.unary op (a.eval x)) (fun _ => rfl) fun _ _ _ _ w _ hs hm h => unV_sound w (zAk hs hy) h,
  fun T T' hag => by funext m; simp only [qUn, zAC hag (by simp [Op.operands]) hy], stay fun _ _ _ => rfl⟩
theorem ok_conv {s d : TypeId} {j k : IntKind} (h1 : P.underlying s = some (.int j)) (h2 : P.underlying d = some (.int k)) {x : Operand} {y : Opd} (hy : opd nt x = some y) : zCD P nt ⟨dst, .convert s d x, ty, pos, af, g⟩ (.quiet false (zBj k y)) :=
 ⟨zAE (fun a => convert s d (a.eval x)) (fun _ => rfl) fun _ _ _ _ w _ hs hm h => sConv h1 h2 (zAk hs hy) h,
  fun T T' hag => by funext m; simp only [zBj, zAC hag (by simp [Op.operands]) hy], stay fun _ _ _ => rfl⟩
theorem ok_b2s {s d e : TypeId} (h1 : P.underlying s = some (.slice e)) (h2 : P.underlying d = some .string) (h3 : P.underlying e = some (.int .u8)) {x : Operand} {y : Opd} (hy : opd nt x = some y) : zCD P nt ⟨dst, .convert s d x, ty, pos, af, g⟩ (.quiet true (qB2s y)) :=
 ⟨zAE (fun a => convert s d (a.eval x)) (fun _ => rfl) fun _ _ _ _ w _ hs hm h => sB2s hm h1 h3 h2 (zAk hs hy) h,
  fun T T' hag => by funext m; simp only [qB2s, zAC hag (by simp [Op.operands]) hy], ⟨fun h => (by cases h), mono_b2s _⟩⟩
theorem ok_s2b {s d e : TypeId} (h1 : P.underlying s = some .string) (h2 : P.underlying d = some (.slice e)) (h3 : P.underlying e = some (.int .u8)) {x : Operand} {y : Opd} (hy : opd nt x = some y) : zCD P nt ⟨dst, .convert s d x, ty, pos, af, g⟩ (.alloc (aS2b y)) :=
 ⟨zEP (fun a => convert s d (a.eval x)) (fun _ => rfl) fun _ _ _ _ _ _ _ hs h => sS2b h1 h2 h3 (zAk hs hy) h,
  fun T T' hag => by funext nx; simp only [aS2b, zAC hag (by simp [Op.operands]) hy],
  fun T nx v ob h => by
   unfold aS2b at h
   split at h
   ·simp only [Option.some.injEq, Prod.mk.injEq] at h
    exact .inr (.inl ⟨0, _, _, 1, h.1.symm⟩)
   ·cases h⟩
end
end Go.AM
namespace Go.AM
open Go
section
variable {P : Program} {ρ : Ren} {nt : Nat} {T : zAa} {a : Act} {m : Mem} {w : World}
theorem sSlcA (hm : MR ρ m w) {t e : TypeId} {n : Nat} (hu : P.underlying t = some (.array n e)) {sz : Nat} (hsz : zBa P e = some sz) (hs : SR ρ nt T a.tmps) {x : Opd} {x' : Value} (hx : VR ρ (ev T x) x') {lo hi mx : Option Operand} {lo' hi' mx' : Option Opd}
  (h1 : zEy nt lo = some lo') (h2 : zEy nt hi = some hi') (h3 : zEy nt mx = some mx') (hmx : mx.isSome = true → hi.isSome = true) {v : V} (h : zIW n sz x lo' hi' mx' T m = some v) :
  ∃ v', (Instr.sliceAt t x' (lo.map a.eval) (hi.map a.eval) (mx.map a.eval)).run P w = .ok v' w ∧ VR ρ v v' := by
 unfold zIW at h
 split at h
 ·rename_i b off hst
  rw [hst] at hx
  split at h
  ·rename_i cs hc
   split at h
   ·rename_i l k c e1 e2 e3
    obtain ⟨hc1, h⟩ := zAF h
    simp only [Bool.and_eq_true] at hc1
    obtain ⟨⟨hc1, hin⟩, hpos⟩ := hc1
    have hpos := zAV.1 hpos
    simp only [Option.some.injEq] at h; subst h
    obtain ⟨hl, hk, hcc⟩ := zIr hc1
    have hin' := zAA.1 hin
    cases hx with | ptr hb =>
    rename_i i
    obtain ⟨c', h5, h6, h7⟩ := zIR (P := P) (w := w) false hs h1 h2 h3 hmx e1 e2 e3 hl hk hcc (Nat.le_refl n)
    have hext : off + i.d + n * sz ≤ i.n := by
     unfold zCz at hc
     cases ho : m.get b with
     | none => simp [ho] at hc
     | some o =>
      cases o with
      | cells cs0 ro =>
       simp only [ho, Option.some.injEq] at hc; subst hc
       obtain ⟨cs', ty, lo2, hi2, q1, q2, q3, q4⟩ := hm.obj b i _ hb ho
       by_cases h0 : cs0.length = 0
       ·omega
       ·obtain ⟨v', q5, _⟩ := q3 (cs0.length - 1) (cs0[cs0.length - 1]'(by omega)) (List.getElem?_eq_getElem (by omega))
        have := (Array.getElem?_eq_some_iff.1 q5).1
        omega
      | _ => simp [ho] at hc
    have hmul : l * sz + (c' - l) * sz ≤ n * sz := by
     rw [← Nat.add_mul]
     exact Nat.mul_le_mul_right sz (by omega)
    by_cases hcl : c' = l
    ·refine ⟨.slice (some ⟨i.b, off + i.d, none⟩) (k - l) (c' - l), ?_, .slice hb (by omega) (by omega) (by omega) (by omega)⟩
     simp only [Instr.sliceAt, Sem.run_bind, zAh hu, Result.andThen_ok, Instr.sureAddr, Sem.run_pure, h5, zAQ w hsz, if_pos hcl]
    ·refine ⟨.slice (some ⟨i.b, off + i.d + l * sz, none⟩) (k - l) (c' - l), ?_, .slice hb (by omega) (by omega) (by intro _; omega) (by omega)⟩
     simp only [Instr.sliceAt, Sem.run_bind, zAh hu, Result.andThen_ok, Instr.sureAddr, Sem.run_pure, h5, zAQ w hsz, if_neg hcl, zCC]
   ·cases h
  ·cases h
 ·cases h
end
section
variable {P : Program} {nt : Nat}
variable (dst : Option Tmp) (ty : TypeId) (pos : String) (af : Array Edge) (g : Option (Nat × Bool))
theorem ok_mki {t : TypeId} {d : TypeDesc} (hu : P.underlying t = some d) (hd : ∀ ms, d ≠ .interface ms) {x : Operand} {y : Opd} (hy : opd nt x = some y) : zCD P nt ⟨dst, .makeInterface t x, ty, pos, af, g⟩ (.quiet false (zGa t y)) :=
 ⟨zAE (fun a => Instr.makeInterface t (a.eval x)) (fun _ => rfl) fun ρ T a _ w v hs hm h => (by
   simp only [zGa, Option.some.injEq] at h; subst h
   refine ⟨.iface t (a.eval x), ?_, .iface (zAk hs hy)⟩
   simp only [Instr.makeInterface, Sem.run_bind, zAh hu, Result.andThen_ok]
   cases d <;> first | rfl | exact (hd _ rfl).elim),
  fun T T' hag => by funext m; simp only [zGa, zAC hag (by simp [Op.operands]) hy], stay fun _ _ _ => rfl⟩
theorem ok_mkf {f : FuncId} {fs cs : Array Operand} {fs' cs' : List Opd} (h1 : zIY nt fs.toList = some fs') (h2 : zIY nt cs.toList = some cs') : zCD P nt ⟨dst, .makeFunc (.func f) fs cs, ty, pos, af, g⟩ (.quiet false (qMkf (.func f) fs' cs')) :=
 ⟨zAE (fun a => Instr.makeFunc (.func f) (fs.map a.eval) (cs.map a.eval)) (fun _ => rfl) fun ρ T a _ w v hs hm h => (by
   have := sMkf hs h1 h2 h
   refine ⟨.func (.func f) (fs.map a.eval) (cs.map a.eval), rfl, ?_⟩
   have e1 : fs.map a.eval = ⟨fs.toList.map a.eval⟩ := by apply Array.ext'; simp
   have e2 : cs.map a.eval = ⟨cs.toList.map a.eval⟩ := by apply Array.ext'; simp
   rw [e1, e2]
   exact this),
  fun T T' hag => by
   funext m
   simp only [qMkf, zEx hag (fun x hx => by simp [Op.operands, Array.mem_toList_iff.1 hx]) h1, zEx hag (fun x hx => by simp [Op.operands, Array.mem_toList_iff.1 hx]) h2], stay fun _ _ _ => rfl⟩
theorem ok_mkm {t : TypeId} : zCD P nt ⟨dst, .makeMap t none, ty, pos, af, g⟩ (.alloc aMkm) :=
 ⟨zEP (fun _ => Instr.makeMap t none) (fun _ => rfl) fun ρ T a w nx v ob hs h => sMkm (T := T) h, fun _ _ _ => rfl,
  fun T nx v ob h => by
   simp only [aMkm, Option.some.injEq, Prod.mk.injEq] at h
   exact .inr (.inr h.1.symm)⟩
theorem mks_shape {sz bt : Nat} {zs : List V} {l c : Opd} {T : zAa} {nx : Nat} {v : V} {ob : zAe} (h : aMks sz bt zs l c T nx = some (v, ob)) : (∃ off, v = .ptr nx off) ∨ (∃ a b c d, v = .slice nx a b c d) ∨ v = .map nx := by
 unfold aMks at h
 split at h
 ·obtain ⟨_, h2⟩ := zAF h
  simp only [Option.some.injEq, Prod.mk.injEq] at h2
  exact .inr (.inl ⟨_, _, _, _, h2.1.symm⟩)
 ·cases h
theorem ok_mks {t e : TypeId} {sz bt : Nat} {z : V} (hu : P.underlying t = some (.slice e)) (hsz : zBa P e = some sz) (hby : zFY P e = some bt) (hz : zB6 P e = some z) (hzl : z.cells.length = sz) (hsz0 : sz ≠ 0)
  {l c : Operand} {l' c' : Opd} (hl : opd nt l = some l') (hc : opd nt c = some c') : zCD P nt ⟨dst, .makeSlice t l c, ty, pos, af, g⟩ (.alloc (aMks sz bt z.cells l' c')) := by
 unfold zCD
 refine ⟨?_, ?_, ?_⟩
 ·intro ρ T a w nx v ob hs h
  obtain ⟨v', ob', w', n, h1, h2, h3⟩ := sMks (P := P) (w := w) hu hsz hby hz hzl hsz0 (zAk hs hl) (zAk hs hc) h
  refine ⟨v', ob', w', n, ?_, h2, h3⟩
  have := zEt h1
  simp only [execOp]
  exact this
 ·intro T T' hag
  have e1 := zAC hag (by simp [Op.operands]) hl
  have e2 := zAC hag (by simp [Op.operands]) hc
  funext nx
  unfold aMks
  rw [e1, e2]
 ·intro T nx v ob h
  exact mks_shape h
theorem zBM {t : TypeId} {x : Operand} {lo hi mx : Option Operand} : (x ∈ (Op.slice t x lo hi mx).operands) ∧ (∀ z, lo = some z → z ∈ (Op.slice t x lo hi mx).operands) ∧ (∀ z, hi = some z → z ∈ (Op.slice t x lo hi mx).operands) ∧ (∀ z, mx = some z → z ∈ (Op.slice t x lo hi mx).operands) := by
 refine ⟨by simp [Op.operands], ?_, ?_, ?_⟩ <;> (intro z hz; subst hz; simp [Op.operands])
theorem ok_slcStr {t : TypeId} (hu : P.underlying t = some .string) {x : Operand} {y : Opd} (hy : opd nt x = some y) {lo hi : Option Operand} {lo' hi' : Option Opd} (h1 : zEy nt lo = some lo') (h2 : zEy nt hi = some hi') :
  zCD P nt ⟨dst, .slice t x lo hi none, ty, pos, af, g⟩ (.quiet false (zA8 y lo' hi')) :=
 ⟨zAE (fun a => Instr.sliceAt t (a.eval x) (lo.map a.eval) (hi.map a.eval) none) (fun _ => rfl) fun _ _ _ _ w _ hs hm h => sSlcStr hu hs (zAk hs hy) h1 h2 h,
  fun T T' hag => by
   funext m
   simp only [zA8, zAC hag zBM.1 hy, zCI hag zBM.2.1 h1, zCI hag zBM.2.2.1 h2], stay fun _ _ _ => rfl⟩
theorem ok_slcS {t e : TypeId} (hu : P.underlying t = some (.slice e)) {sz : Nat} (hsz : zBa P e = some sz) {x : Operand} {y : Opd} (hy : opd nt x = some y) {lo hi mx : Option Operand} {lo' hi' mx' : Option Opd} (h1 : zEy nt lo = some lo') (h2 : zEy nt hi = some hi') (h3 : zEy nt mx = some mx')
  (hmx : mx.isSome = true → hi.isSome = true) : zCD P nt ⟨dst, .slice t x lo hi mx, ty, pos, af, g⟩ (.quiet false (qSlcS sz y lo' hi' mx')) :=
 ⟨zAE (fun a => Instr.sliceAt t (a.eval x) (lo.map a.eval) (hi.map a.eval) (mx.map a.eval)) (fun _ => rfl) fun _ _ _ _ w _ hs hm h => sSlcS hu hsz hs (zAk hs hy) h1 h2 h3 hmx h,
  fun T T' hag => by
   funext m
   simp only [qSlcS, zAC hag zBM.1 hy, zCI hag zBM.2.1 h1, zCI hag zBM.2.2.1 h2, zCI hag zBM.2.2.2 h3], stay fun _ _ _ => rfl⟩
theorem ok_slcA {t e : TypeId} {n : Nat} (hu : P.underlying t = some (.array n e)) {sz : Nat} (hsz : zBa P e = some sz) {x : Operand} {y : Opd} (hy : opd nt x = some y) {lo hi mx : Option Operand} {lo' hi' mx' : Option Opd} (h1 : zEy nt lo = some lo') (h2 : zEy nt hi = some hi') (h3 : zEy nt mx = some mx')
  (hmx : mx.isSome = true → hi.isSome = true) : zCD P nt ⟨dst, .slice t x lo hi mx, ty, pos, af, g⟩ (.quiet true (zIW n sz y lo' hi' mx')) :=
 ⟨zAE (fun a => Instr.sliceAt t (a.eval x) (lo.map a.eval) (hi.map a.eval) (mx.map a.eval)) (fun _ => rfl) fun _ _ _ _ w _ hs hm h => sSlcA hm hu hsz hs (zAk hs hy) h1 h2 h3 hmx h,
  fun T T' hag => by
   funext m
   simp only [zIW, zAC hag zBM.1 hy, zCI hag zBM.2.1 h1, zCI hag zBM.2.2.1 h2, zCI hag zBM.2.2.2 h3], ⟨fun h => (by cases h), mono_slcA _ _ _ _ _ _⟩⟩
theorem ok_faddr {t : TypeId} {fs : Array Field} (hu : P.underlying t = some (.struct fs)) {f : Nat} {fl : Field} (hf : fs[f]? = some fl) {n : Nat} (hn : zBa P fl.type = some (n + 1)) {x : Operand} {y : Opd} (hy : opd nt x = some y) :
  zCD P nt ⟨dst, .fieldAddr t x f, ty, pos, af, g⟩ (.quiet false (zDi fl.offset y)) :=
 ⟨zAE (fun a => Instr.fieldAt t (a.eval x) f) (fun _ => rfl) fun _ _ _ _ w _ hs hm h => sFaddr hu hf hn (zAk hs hy) h,
  fun T T' hag => by funext m; simp only [zDi, zAC hag (by simp [Op.operands]) hy], stay fun _ _ _ => rfl⟩
theorem ok_iaddrA {t e : TypeId} {k n : Nat} (hu : P.underlying t = some (.array k e)) (hn : zBa P e = some n) {x i : Operand} {x' i' : Opd} (hx : opd nt x = some x') (hi : opd nt i = some i') :
  zCD P nt ⟨dst, .indexAddr t x i, ty, pos, af, g⟩ (.quiet false (zDQ k n x' i')) :=
 ⟨zAE (fun a => Instr.indexAt t (a.eval x) (a.eval i)) (fun _ => rfl) fun _ _ _ _ w _ hs hm h => sIaddrA hu hn (zAk hs hx) (zAk hs hi) h,
  fun T T' hag => by funext m; simp only [zDQ, zAC hag (by simp [Op.operands]) hx, zAC hag (by simp [Op.operands]) hi], stay fun _ _ _ => rfl⟩
theorem ok_iaddrS {t e : TypeId} {n : Nat} (hu : P.underlying t = some (.slice e)) (hn : zBa P e = some n) {x i : Operand} {x' i' : Opd} (hx : opd nt x = some x') (hi : opd nt i = some i') :
  zCD P nt ⟨dst, .indexAddr t x i, ty, pos, af, g⟩ (.quiet false (zAU n x' i')) :=
 ⟨zAE (fun a => Instr.indexAt t (a.eval x) (a.eval i)) (fun _ => rfl) fun _ _ _ _ w _ hs hm h => sIaddrS hu hn (zAk hs hx) (zAk hs hi) h,
  fun T T' hag => by funext m; simp only [zAU, zAC hag (by simp [Op.operands]) hx, zAC hag (by simp [Op.operands]) hi], stay fun _ _ _ => rfl⟩
theorem ok_idxS {t : TypeId} (hu : P.underlying t = some .string) {x i : Operand} {x' i' : Opd} (hx : opd nt x = some x') (hi : opd nt i = some i') :
  zCD P nt ⟨dst, .index t x i, ty, pos, af, g⟩ (.quiet false (qIdxS x' i')) :=
 ⟨zAE (fun a => Instr.index t (a.eval x) (a.eval i)) (fun _ => rfl) fun _ _ _ _ w _ hs hm h => sIdxS hu (zAk hs hx) (zAk hs hi) h,
  fun T T' hag => by funext m; simp only [qIdxS, zAC hag (by simp [Op.operands]) hx, zAC hag (by simp [Op.operands]) hi], stay fun _ _ _ => rfl⟩
theorem ok_look {t k e : TypeId} {kt : KT} {z : V} {ok : Bool} (hu : P.underlying t = some (.map k e)) (hk : keyT P k = some kt) (hz : zB6 P e = some z) {m0 k0 : Operand} {m1 k1 : Opd} (hm : opd nt m0 = some m1) (hk1 : opd nt k0 = some k1) :
  zCD P nt ⟨dst, .lookup t m0 k0 ok, ty, pos, af, g⟩ (.quiet true (zGb kt ok z m1 k1)) :=
 ⟨zAE (fun a => Instr.lookup t (a.eval m0) (a.eval k0) ok) (fun _ => rfl) fun _ _ _ _ w _ hs hmr h => sLook hmr hu (zCZ hk) hz (zAk hs hm) (zAk hs hk1) h,
  fun T T' hag => by funext m; simp only [zGb, zAC hag (by simp [Op.operands]) hm, zAC hag (by simp [Op.operands]) hk1], ⟨fun h => (by cases h), mono_look _ _ _ _ _⟩⟩
theorem ok_rng {t k e : TypeId} (hu : P.underlying t = some (.map k e)) {x : Operand} {y : Opd} (hy : opd nt x = some y) : zCD P nt ⟨dst, .range t x, ty, pos, af, g⟩ (.loud (lRng y)) :=
 ⟨zEi (fun a => Instr.range t (a.eval x)) (fun _ => rfl) fun _ _ _ _ _ _ _ hs hmr h => sRng hmr hu (zAk hs hy) h,
  fun T T' hag => by funext m; simp only [lRng, zAC hag (by simp [Op.operands]) hy]⟩
theorem ok_next {x : Operand} {y : Opd} (hy : opd nt x = some y) : zCD P nt ⟨dst, .next x false, ty, pos, af, g⟩ (.next y) :=
 ⟨fun ρ T a m w l hs hm h => by
   obtain ⟨vm, h1, v', w', ρ', h2, h3, h4, h5⟩ := sNext hm (zAk hs hy) ty h
   exact ⟨vm, h1, .value v', v', w', ρ', zEt h2, .inl rfl, h3, h4, h5⟩,
  fun T T' hag => zAC hag (by simp [Op.operands]) hy⟩
theorem ok_entry {x : Operand} {y : Opd} (hy : opd nt x = some y) : zCD P nt ⟨dst, .entry x, ty, pos, af, g⟩ (.quiet true (zHf y)) :=
 ⟨zAE (fun a => Instr.entry (a.eval x)) (fun _ => rfl) fun _ _ _ _ _ _ hs hm h => sEntry hm (zAk hs hy) h,
  fun T T' hag => by funext m; simp only [zHf, zAC hag (by simp [Op.operands]) hy], ⟨fun h => (by cases h), mono_entry _⟩⟩
theorem ok_ext {x : Operand} {y : Opd} {i : Nat} (hy : opd nt x = some y) : zCD P nt ⟨dst, .extract x i, ty, pos, af, g⟩ (.quiet false (qExt i y)) :=
 ⟨zAE (fun a => Instr.extract (a.eval x) i) (fun _ => rfl) fun _ _ _ _ _ _ hs hm h => sExt (zAk hs hy) h,
  fun T T' hag => by funext m; simp only [qExt, zAC hag (by simp [Op.operands]) hy], stay fun _ _ _ => rfl⟩
theorem ok_ta {t xt : TypeId} {d : TypeDesc} (hu : P.underlying t = some d) (hd : ∀ ms, d ≠ .interface ms) {z : V} (hz : zB6 P t = some z) {ok : Bool} {x : Operand} {y : Opd} (hy : opd nt x = some y) :
  zCD P nt ⟨dst, .typeAssert x xt t ok, ty, pos, af, g⟩ (.quiet false (qTa t ok z y)) :=
 ⟨zAE (fun a => Instr.typeAssert (a.eval x) xt t ok) (fun _ => rfl) fun ρ T a _ w v hs hm h => (by
   obtain ⟨z', z1, z2, _⟩ := zBK hz ρ w
   have hx := zAk hs hy
   have hpair : ∀ {v v' : V} {u u' : Value}, VR ρ v u → VR ρ v' u' → VR ρ (.tuple [v, v']) (.tuple #[u, u']) := fun a b => .tuple (.cons a (.cons b .nil))
   unfold qTa at h
   split at h
   ·rename_i he
    rw [he] at hx
    generalize a.eval x = xv at hx ⊢
    cases hx
    cases ok with
    | false => cases h
    | true =>
     simp only [cond_true, Option.some.injEq] at h; subst h
     refine ⟨.tuple #[z', .bool false], ?_, hpair z2 (.bool _)⟩
     simp only [Instr.typeAssert, Sem.run_bind, zAh hu, Result.andThen_ok]
     cases d <;> first | exact (hd _ rfl).elim | simp only [if_true, Sem.run_bind, z1, Result.andThen_ok, Sem.run_pure]
   ·rename_i u v0 he
    rw [he] at hx
    generalize a.eval x = xv at hx ⊢
    cases hx with | iface hv =>
    rename_i v0'
    by_cases e : u = t
    ·subst e
     rw [zCG rfl, cond_true] at h
     simp only [Option.some.injEq] at h; subst h
     cases ok with
     | false =>
      refine ⟨v0', ?_, hv⟩
      simp only [Instr.typeAssert, Sem.run_bind, zAh hu, Result.andThen_ok]
      cases d <;> first | exact (hd _ rfl).elim | simp only [if_true, Bool.false_eq_true, if_false, Sem.run_pure]
     | true =>
      refine ⟨.tuple #[v0', .bool true], ?_, hpair hv (.bool _)⟩
      simp only [Instr.typeAssert, Sem.run_bind, zAh hu, Result.andThen_ok]
      cases d <;> first | exact (hd _ rfl).elim | simp only [if_true, Sem.run_pure]
    ·rw [zAS e, cond_false] at h
     cases ok with
     | false => cases h
     | true =>
      simp only [cond_true, Option.some.injEq] at h; subst h
      refine ⟨.tuple #[z', .bool false], ?_, hpair z2 (.bool _)⟩
      simp only [Instr.typeAssert, Sem.run_bind, zAh hu, Result.andThen_ok]
      cases d <;> first | exact (hd _ rfl).elim | simp only [if_neg e, if_true, Sem.run_bind, z1, Result.andThen_ok, Sem.run_pure]
   ·cases h),
  fun T T' hag => by funext m; simp only [qTa, zAC hag (by simp [Op.operands]) hy], stay fun _ _ _ => rfl⟩
theorem ok_panic {x : Operand} : zCD P nt ⟨dst, .panic x, ty, pos, af, g⟩ (.loud lFail) :=
 ⟨fun ρ T a m w v m' _ _ h => (by cases h), fun _ _ _ => rfl⟩
theorem ok_call {f : Operand} {args : Array Operand} {ts : Array TypeId} {f' : Opd} {args' : List Opd} (hf : opd nt f = some f') (ha : zIY nt args.toList = some args') :
  zCD P nt ⟨dst, .call ⟨.value f, args, ts⟩, ty, pos, af, g⟩ (.call f' args') :=
 ⟨fun ρ T a hs => ⟨a.eval f, args.toList.map a.eval, zAk hs hf, zCY hs ha, by
   have e1 : args.map a.eval = ⟨args.toList.map a.eval⟩ := by apply Array.ext'; simp
   simp only [execOp, resolve, e1]⟩,
  fun T T' hag => ⟨zAC hag (by simp [Op.operands, Call.operands]) hf, zEx hag (fun x hx => by simp [Op.operands, Call.operands, Array.mem_toList_iff.1 hx]) ha⟩⟩
end
end Go.AM
namespace Go.AM
open Go
section
variable {P : Program} {nt : Nat}
variable (dst : Option Tmp) (ty : TypeId) (pos : String) (af : Array Edge) (g : Option (Nat × Bool))
theorem args2 {a : Act} {args : Array Operand} {x y : Operand} (h : args.toList = [x, y]) : args.map a.eval = #[a.eval x, a.eval y] := by
 have : args = #[x, y] := by apply Array.ext'; simpa using h
 subst this; simp
theorem args1 {a : Act} {args : Array Operand} {x : Operand} (h : args.toList = [x]) : args.map a.eval = #[a.eval x] := by
 have : args = #[x] := by apply Array.ext'; simpa using h
 subst this; simp
theorem arr2 {α : Type} {ts : Array α} {t u : α} (h : ts.toList = [t, u]) : ts = #[t, u] := by apply Array.ext'; simpa using h
theorem arr1 {α : Type} {ts : Array α} {t : α} (h : ts.toList = [t]) : ts = #[t] := by apply Array.ext'; simpa using h
theorem zCl {b : Builtin} {args : Array Operand} {ts : Array TypeId} {x : Operand} (h : x ∈ args.toList) : x ∈ (Op.call ⟨.builtin b, args, ts⟩).operands := by
 simp [Op.operands, Call.operands, Array.mem_toList_iff.1 h]
theorem ok_append {t u e : TypeId} {ts : Array TypeId} {args : Array Operand} {s x : Operand} {s' x' : Opd} {sz bt : Nat} {z : V} (hts : ts.toList = [t, u]) (hargs : args.toList = [s, x])
  (ht : P.underlying t = some (.slice e)) (hu : (P.underlying u = some .string ∧ sz = 1) ∨ ∃ e', P.underlying u = some (.slice e')) (hsz : zBa P e = some sz) (hbt : zFY P e = some bt)
  (hz : zB6 P e = some z) (hzl : z.cells.length = sz) (hsz0 : sz ≠ 0) (hs : opd nt s = some s') (hx : opd nt x = some x') :
  zCD P nt ⟨dst, .call ⟨.builtin .append, args, ts⟩, ty, pos, af, g⟩ (.loud (zE2 sz bt s' x')) := by
 refine ⟨zEi (fun a => Builtin.append_ ts ty (args.map a.eval)) (fun _ => rfl) fun ρ T a m w v m' hsr hm h => ?_, fun T T' hag => ?_⟩
 ·rw [arr2 hts, args2 hargs]
  exact sApp hm ty ht hu hsz hbt hz hzl hsz0 (zAk hsr hs) (zAk hsr hx) h
 ·funext m
  simp only [zE2, zAC hag (zCl (by simp [hargs])) hs, zAC hag (zCl (by simp [hargs])) hx]
theorem ok_delete {t u k e : TypeId} {ts : Array TypeId} {args : Array Operand} {s x : Operand} {s' x' : Opd} {kt : KT} (hts : ts.toList = [t, u]) (hargs : args.toList = [s, x])
  (ht : P.underlying t = some (.map k e)) (hk : keyT P k = some kt) (hs : opd nt s = some s') (hx : opd nt x = some x') :
  zCD P nt ⟨dst, .call ⟨.builtin .delete, args, ts⟩, ty, pos, af, g⟩ (.loud (zCp kt s' x')) := by
 refine ⟨zEi (fun a => Builtin.delete_ ts ty (args.map a.eval)) (fun _ => rfl) fun ρ T a m w v m' hsr hm h => ?_, fun T T' hag => ?_⟩
 ·rw [arr2 hts, args2 hargs]
  exact sMdel hm ty ht (zCZ hk) (zAk hsr hs) (zAk hsr hx) h
 ·funext m
  simp only [zCp, zAC hag (zCl (by simp [hargs])) hs, zAC hag (zCl (by simp [hargs])) hx]
theorem ok_clearS {t e : TypeId} {ts : Array TypeId} {args : Array Operand} {s : Operand} {s' : Opd} {z : V} (hts : ts.toList = [t]) (hargs : args.toList = [s])
  (ht : P.underlying t = some (.slice e)) (hz : zB6 P e = some z) (hz0 : z.cells.length ≠ 0) (hs : opd nt s = some s') :
  zCD P nt ⟨dst, .call ⟨.builtin .clear, args, ts⟩, ty, pos, af, g⟩ (.loud (lClrS z.cells s')) := by
 refine ⟨zEi (fun a => Builtin.clear_ ts ty (args.map a.eval)) (fun _ => rfl) fun ρ T a m w v m' hsr hm h => ?_, fun T T' hag => ?_⟩
 ·rw [arr1 hts, args1 hargs]
  exact sClrS hm ty ht hz hz0 (zAk hsr hs) h
 ·funext m
  simp only [lClrS, zAC hag (zCl (by simp [hargs])) hs]
theorem ok_clearM {t k e : TypeId} {ts : Array TypeId} {args : Array Operand} {s : Operand} {s' : Opd} (hts : ts.toList = [t]) (hargs : args.toList = [s])
  (ht : P.underlying t = some (.map k e)) (hs : opd nt s = some s') :
  zCD P nt ⟨dst, .call ⟨.builtin .clear, args, ts⟩, ty, pos, af, g⟩ (.loud (lClrM s')) := by
 refine ⟨zEi (fun a => Builtin.clear_ ts ty (args.map a.eval)) (fun _ => rfl) fun ρ T a m w v m' hsr hm h => ?_, fun T T' hag => ?_⟩
 ·rw [arr1 hts, args1 hargs]
  exact sClrM hm ty ht (zAk hsr hs) h
 ·funext m
  simp only [lClrM, zAC hag (zCl (by simp [hargs])) hs]
theorem ok_lenS {t : TypeId} {ts : Array TypeId} {args : Array Operand} {x : Operand} {x' : Opd} (hts : ts.toList = [t]) (hargs : args.toList = [x]) (hu : P.underlying t = some .string) (hx : opd nt x = some x') :
  zCD P nt ⟨dst, .call ⟨.builtin .len, args, ts⟩, ty, pos, af, g⟩ (.quiet false (zBw x')) :=
 ⟨zAE (fun a => Builtin.len_ ts ty (args.map a.eval)) (fun _ => rfl) fun ρ T a m w v hsr hm h => sLenS hu ts (by rw [arr1 hts]; rfl) ty _ (by rw [args1 hargs]; rfl) (zAk hsr hx) h,
  fun T T' hag => by funext m; simp only [zBw, zAC hag (zCl (by simp [hargs])) hx], stay fun _ _ _ => rfl⟩
theorem ok_lenL {t e : TypeId} {ts : Array TypeId} {args : Array Operand} {x : Operand} {x' : Opd} (hts : ts.toList = [t]) (hargs : args.toList = [x]) (hu : P.underlying t = some (.slice e)) (hx : opd nt x = some x') :
  zCD P nt ⟨dst, .call ⟨.builtin .len, args, ts⟩, ty, pos, af, g⟩ (.quiet false (zBP x')) :=
 ⟨zAE (fun a => Builtin.len_ ts ty (args.map a.eval)) (fun _ => rfl) fun ρ T a m w v hsr hm h => sLenL hu ts (by rw [arr1 hts]; rfl) ty _ (by rw [args1 hargs]; rfl) (zAk hsr hx) h,
  fun T T' hag => by funext m; simp only [zBP, zAC hag (zCl (by simp [hargs])) hx], stay fun _ _ _ => rfl⟩
theorem ok_lenM {t k e : TypeId} {ts : Array TypeId} {args : Array Operand} {x : Operand} {x' : Opd} (hts : ts.toList = [t]) (hargs : args.toList = [x]) (hu : P.underlying t = some (.map k e)) (hx : opd nt x = some x') :
  zCD P nt ⟨dst, .call ⟨.builtin .len, args, ts⟩, ty, pos, af, g⟩ (.quiet true (zCw x')) :=
 ⟨zAE (fun a => Builtin.len_ ts ty (args.map a.eval)) (fun _ => rfl) fun ρ T a m w v hsr hm h => sLenM hm hu ts (by rw [arr1 hts]; rfl) ty _ (by rw [args1 hargs]; rfl) (zAk hsr hx) h,
  fun T T' hag => by funext m; simp only [zCw, zAC hag (zCl (by simp [hargs])) hx], ⟨fun h => (by cases h), mono_lenM _⟩⟩
theorem maxRun {l : List Value} {v : Value} (ts : Array TypeId) : (Builtin.max_ ts ty ⟨v :: l⟩) = l.foldlM Builtin.max2 v := by
 simp [Builtin.max_]
theorem minRun {l : List Value} {v : Value} (ts : Array TypeId) : (Builtin.min_ ts ty ⟨v :: l⟩) = l.foldlM Builtin.min2 v := by
 simp [Builtin.min_]
theorem ok_max {ts : Array TypeId} {args : Array Operand} {xs : List Opd} (h1 : zIY nt args.toList = some xs) :
  zCD P nt ⟨dst, .call ⟨.builtin .max, args, ts⟩, ty, pos, af, g⟩ (.quiet false (qMaxi xs)) := by
 refine ⟨zAE (fun a => Builtin.max_ ts ty (args.map a.eval)) (fun _ => rfl) fun ρ T a m w v hsr hm h => ?_, fun T T' hag => ?_, stay fun _ _ _ => rfl⟩
 ·have h2 := zCY hsr h1
  have e1 : args.map a.eval = ⟨args.toList.map a.eval⟩ := by apply Array.ext'; simp
  rw [e1]
  unfold qMaxi at h
  generalize Opd.evs T xs = vs at h h2
  generalize args.toList.map a.eval = vs' at h2 ⊢
  cases h2 with
  | nil => cases h
  | cons hx hl => rw [maxRun]; exact sMaxi hx hl h
 ·funext m
  simp only [qMaxi, zEx hag (fun x hx => zCl hx) h1]
theorem ok_min {ts : Array TypeId} {args : Array Operand} {xs : List Opd} (h1 : zIY nt args.toList = some xs) :
  zCD P nt ⟨dst, .call ⟨.builtin .min, args, ts⟩, ty, pos, af, g⟩ (.quiet false (qMini xs)) := by
 refine ⟨zAE (fun a => Builtin.min_ ts ty (args.map a.eval)) (fun _ => rfl) fun ρ T a m w v hsr hm h => ?_, fun T T' hag => ?_, stay fun _ _ _ => rfl⟩
 ·have h2 := zCY hsr h1
  have e1 : args.map a.eval = ⟨args.toList.map a.eval⟩ := by apply Array.ext'; simp
  rw [e1]
  unfold qMini at h
  generalize Opd.evs T xs = vs at h h2
  generalize args.toList.map a.eval = vs' at h2 ⊢
  cases h2 with
  | nil => cases h
  | cons hx hl => rw [minRun]; exact sMini hx hl h
 ·funext m
  simp only [qMini, zEx hag (fun x hx => zCl hx) h1]
end
section
variable {P : Program} {nt : Nat}
theorem zGB {o : Oper} {ao : AOp} (h : compOp P nt o.op = some ao) : zCD P nt o ao := by
 obtain ⟨dst, op, ty, pos, af, g⟩ := o
 simp only at h
 cases op <;> simp only [compOp, Option.bind_eq_bind, Option.bind_eq_some_iff, reduceCtorEq, Option.some.injEq] at h
 case move x => obtain ⟨y, h1, rfl⟩ := h; exact ok_mov dst ty pos af g h1 _ (.inl rfl)
 case assign x => obtain ⟨y, h1, rfl⟩ := h; exact ok_mov dst ty pos af g h1 _ (.inr rfl)
 case pick => obtain ⟨_, h1, _, h2, _, h3, rfl⟩ := h; exact ok_pick dst ty pos af g h1 h2 h3
 case alloc => obtain ⟨_, h1, rfl⟩ := h; exact ok_alloc dst ty pos af g h1
 case box => obtain ⟨_, h1, rfl⟩ := h; exact ok_box dst ty pos af g h1
 case build t parts =>
  obtain ⟨z, h1, h⟩ := h
  cases z <;> simp only [reduceCtorEq] at h
  rename_i zs
  cases hu : P.underlying t with
  | none => simp [hu] at h
  | some d =>
   cases d <;> simp only [hu, reduceCtorEq] at h
   case struct fs =>
    simp only [Option.bind_eq_some_iff] at h
    obtain ⟨ps, h2, h⟩ := h
    obtain ⟨hall, h⟩ := zAF h
    simp only [Option.some.injEq] at h
    subst h
    exact ok_buildS dst ty pos af g h1 hu hall h2
   case array n e =>
    simp only [Option.bind_eq_some_iff, Option.some.injEq] at h
    obtain ⟨sz, h2, ps, h3, rfl⟩ := h
    exact ok_buildA dst ty pos af g h1 hu h2 h3
 case buildSlice t len parts =>
  cases hu : P.underlying t with
  | none => simp [hu] at h
  | some d =>
   cases d <;> simp only [hu, reduceCtorEq] at h
   simp only [Option.bind_eq_some_iff] at h
   obtain ⟨sz, h1, z, h2, ps, h3, h⟩ := h
   obtain ⟨hc, h⟩ := zAF h
   simp only [Option.some.injEq] at h
   subst h
   simp only [Bool.and_eq_true, Bool.not_eq_true', zAA, zAL] at hc
   obtain ⟨⟨hc1, hc2⟩, hc3⟩ := hc
   exact zIZ dst ty pos af g hu h1 h2 hc2 (fun h0 => by rw [zAL.2 h0] at hc3; cases hc3) hc1 h3
 case load t x =>
  obtain ⟨b, h1, h⟩ := h
  cases b <;> simp only [Option.bind_eq_some_iff, Option.some.injEq] at h
  ·obtain ⟨y, h2, rfl⟩ := h; exact ok_load1 dst ty pos af g h1 h2
  ·obtain ⟨n, h2, y, h3, rfl⟩ := h; exact ok_loadN dst ty pos af g h1 h2 h3
 case store => obtain ⟨_, h1, _, h2, _, h3, rfl⟩ := h; exact ok_sto dst ty pos af g h1 h2 h3
 case nilCheck => obtain ⟨_, h1, rfl⟩ := h; exact ok_nilck dst ty pos af g h1
 case unOp => obtain ⟨_, h1, rfl⟩ := h; exact ok_un dst ty pos af g h1
 case entry => obtain ⟨_, h1, rfl⟩ := h; exact ok_entry dst ty pos af g h1
 case extract => obtain ⟨_, h1, rfl⟩ := h; exact ok_ext dst ty pos af g h1
 case insert t m k x =>
  cases hu : P.underlying t with
  | none => simp [hu] at h
  | some d =>
   cases d <;> simp only [hu, reduceCtorEq] at h
   simp only [Option.bind_eq_some_iff, Option.some.injEq] at h
   obtain ⟨kt, h1, _, h2, _, h3, _, h4, rfl⟩ := h
   exact ok_mset dst ty pos af g hu h1 h2 h3 h4 _ (.inl rfl)
 case mapUpdate t m k x =>
  cases hu : P.underlying t with
  | none => simp [hu] at h
  | some d =>
   cases d <;> simp only [hu, reduceCtorEq] at h
   simp only [Option.bind_eq_some_iff, Option.some.injEq] at h
   obtain ⟨kt, h1, _, h2, _, h3, _, h4, rfl⟩ := h
   exact ok_mset dst ty pos af g hu h1 h2 h3 h4 _ (.inr rfl)
 case lookup t m k ok =>
  cases hu : P.underlying t with
  | none => simp [hu] at h
  | some d =>
   cases d <;> simp only [hu, reduceCtorEq] at h
   simp only [Option.bind_eq_some_iff, Option.some.injEq] at h
   obtain ⟨kt, h1, _, h2, _, h3, _, h4, rfl⟩ := h
   exact ok_look dst ty pos af g hu h1 h2 h3 h4
 case range t x =>
  cases hu : P.underlying t with
  | none => simp [hu] at h
  | some d =>
   cases d <;> simp only [hu, reduceCtorEq] at h
   simp only [Option.bind_eq_some_iff, Option.some.injEq] at h
   obtain ⟨_, h1, rfl⟩ := h
   exact ok_rng dst ty pos af g hu h1
 case next it b =>
  cases b <;> simp only [reduceCtorEq, Option.bind_eq_some_iff, Option.some.injEq] at h
  obtain ⟨_, h1, rfl⟩ := h
  exact ok_next dst ty pos af g h1
 case typeAssert x xt t ok =>
  cases hu : P.underlying t with
  | none => simp [hu] at h
  | some d =>
   cases d <;> simp only [hu, reduceCtorEq, Option.bind_eq_some_iff, Option.some.injEq] at h
   all_goals
    obtain ⟨_, h1, _, h2, rfl⟩ := h
    exact ok_ta dst ty pos af g hu (fun _ hd => by cases hd) h1 h2
 case panic x =>
  subst h
  exact ok_panic dst ty pos af g
 case makeInterface t x =>
  cases hu : P.underlying t with
  | none => simp [hu] at h
  | some d =>
   cases d <;> simp only [hu, reduceCtorEq, Option.bind_eq_some_iff, Option.some.injEq] at h
   all_goals
    obtain ⟨_, h1, rfl⟩ := h
    exact ok_mki dst ty pos af g hu (fun _ hd => by cases hd) h1
 case makeFunc fn a b =>
  cases fn <;> simp only [reduceCtorEq, Option.bind_eq_some_iff, Option.some.injEq] at h
  obtain ⟨_, h1, _, h2, rfl⟩ := h
  exact ok_mkf dst ty pos af g h1 h2
 case makeMap t x =>
  cases x <;> simp only [reduceCtorEq, Option.some.injEq] at h
  subst h
  exact ok_mkm dst ty pos af g
 case makeSlice t l c =>
  cases hu : P.underlying t with
  | none => simp [hu] at h
  | some d =>
   cases d <;> simp only [hu, reduceCtorEq] at h
   simp only [Option.bind_eq_some_iff] at h
   obtain ⟨sz, h1, z, h2, bt, h3, _, h4, _, h5, h⟩ := h
   obtain ⟨hc, h⟩ := zAF h
   simp only [Option.some.injEq] at h
   subst h
   simp only [Bool.and_eq_true, Bool.not_eq_true', zAL] at hc
   obtain ⟨hc2, hc3⟩ := hc
   exact ok_mks dst ty pos af g hu h1 h3 h2 hc2 (fun h0 => by rw [zAL.2 h0] at hc3; cases hc3) h4 h5
 case fieldAddr t x f =>
  cases hu : P.underlying t with
  | none => simp [hu] at h
  | some d =>
   cases d <;> simp only [hu, reduceCtorEq] at h
   simp only [Option.bind_eq_some_iff] at h
   obtain ⟨fl, h1, n, h2, h⟩ := h
   cases n <;> simp only [reduceCtorEq, Option.bind_eq_some_iff, Option.some.injEq] at h
   obtain ⟨_, h3, rfl⟩ := h
   exact ok_faddr dst ty pos af g hu h1 h2 h3
 case indexAddr t x i =>
  cases hu : P.underlying t with
  | none => simp [hu] at h
  | some d =>
   cases d <;> simp only [hu, reduceCtorEq, Option.bind_eq_some_iff, Option.some.injEq] at h
   case array => obtain ⟨n, h1, _, h2, _, h3, rfl⟩ := h; exact ok_iaddrA dst ty pos af g hu h1 h2 h3
   case slice => obtain ⟨n, h1, _, h2, _, h3, rfl⟩ := h; exact ok_iaddrS dst ty pos af g hu h1 h2 h3
 case index t x i =>
  cases hu : P.underlying t with
  | none => simp [hu] at h
  | some d =>
   cases d <;> simp only [hu, reduceCtorEq, Option.bind_eq_some_iff, Option.some.injEq] at h
   case string => obtain ⟨_, h2, _, h3, rfl⟩ := h; exact ok_idxS dst ty pos af g hu h2 h3
 case slice t x lo hi mx =>
  obtain ⟨hmx, h⟩ := zFZ h
  have hmx' : mx.isSome = true → hi.isSome = true := by
   intro h1
   rw [h1] at hmx
   simpa using hmx
  cases hu : P.underlying t with
  | none => simp [hu] at h
  | some d =>
   cases d <;> simp only [hu, reduceCtorEq, Option.bind_eq_bind, Option.bind_eq_some_iff, Option.some.injEq] at h
   case string =>
    obtain ⟨_, h1, _, h2, _, h3, h⟩ := h
    obtain ⟨hm, h⟩ := zFZ h
    simp only [Option.some.injEq] at h
    subst h
    cases mx with
    | some _ => simp at hm
    | none => exact ok_slcStr dst ty pos af g hu h1 h2 h3
   case slice => obtain ⟨n, h1, _, h2, _, h3, _, h4, _, h5, rfl⟩ := h; exact ok_slcS dst ty pos af g hu h1 h2 h3 h4 h5 hmx'
   case array => obtain ⟨n, h1, _, h2, _, h3, _, h4, _, h5, rfl⟩ := h; exact ok_slcA dst ty pos af g hu h1 h2 h3 h4 h5 hmx'
 case convert s d x =>
  cases hu : P.underlying s with
  | none => simp [hu] at h
  | some ds =>
   cases hd : P.underlying d with
   | none => cases ds <;> simp [hu, hd] at h
   | some dd =>
    cases ds <;> cases dd <;> simp only [hu, hd, reduceCtorEq, Option.bind_eq_some_iff, Option.some.injEq] at h
    case int.int => obtain ⟨_, h1, rfl⟩ := h; exact ok_conv dst ty pos af g hu hd h1
    case string.slice e =>
     cases he : P.underlying e with
     | none => simp [he] at h
     | some d2 =>
      rw [he] at h
      split at h
      ·rename_i heq
       simp only [Option.some.injEq] at heq
       subst heq
       simp only [Option.bind_eq_some_iff, Option.some.injEq] at h
       obtain ⟨_, h1, rfl⟩ := h
       exact ok_s2b dst ty pos af g hu hd he h1
      ·cases h
    case slice.string e =>
     cases he : P.underlying e with
     | none => simp [he] at h
     | some d2 =>
      rw [he] at h
      split at h
      ·rename_i heq
       simp only [Option.some.injEq] at heq
       subst heq
       simp only [Option.bind_eq_some_iff, Option.some.injEq] at h
       obtain ⟨_, h1, rfl⟩ := h
       exact ok_b2s dst ty pos af g hu hd he h1
      ·cases h
 case binOp bop t x y t2 =>
  split at h
  ·simp only [Option.bind_eq_bind, Option.bind_eq_some_iff, Option.some.injEq] at h
   obtain ⟨_, h1, _, h2, rfl⟩ := h
   exact ok_bin dst ty pos af g h1 h2
  ·simp only [Option.bind_eq_bind, Option.bind_eq_some_iff, Option.some.injEq] at h
   obtain ⟨_, h1, _, h2, rfl⟩ := h
   exact ok_bin dst ty pos af g h1 h2
  ·rename_i hni hns
   simp only [Option.bind_eq_bind, Option.bind_eq_some_iff] at h
   obtain ⟨neg, hn, x', h1, y', h2, h⟩ := h
   have hop : (bop = .eql ∧ neg = false) ∨ (bop = .neq ∧ neg = true) := by
    split at hn
    ·exact .inl ⟨rfl, (Option.some.inj hn).symm⟩
    ·exact .inr ⟨rfl, (Option.some.inj hn).symm⟩
    ·cases hn
   have hkt1 : ∀ k, keyT P t = some (.one k) → k ≠ .int ∧ k ≠ .str := by
    intro k hk
    unfold keyT at hk
    split at hk
    ·simp only [Option.some.injEq, KT.one.injEq] at hk; subst hk; simp
    ·exact (hni _ (by assumption)).elim
    ·exact (hns (by assumption)).elim
    ·split at hk <;> simp at hk
    ·split at hk <;> simp at hk
    ·split at hk
     ·cases hk
     ·cases hk
     ·simp only [Option.some.injEq, KT.one.injEq] at hk; subst hk; simp
    ·cases hk
   split at h
   ·rename_i nk hnk
    cases hy : zGx nk y with
    | true =>
     simp only [hy, cond_true, Option.some.injEq] at h
     subst h
     exact ok_isnil1 dst ty pos af g hop hnk h1 hy
    | false =>
     simp only [hy, cond_false] at h
     cases hx : zGx nk x with
     | true =>
      simp only [hx, cond_true, Option.some.injEq] at h
      subst h
      exact ok_isnil2 dst ty pos af g hop hnk h2 hx
     | false =>
      simp only [hx, cond_false] at h
      split at h
      ·rename_i k hk
       simp only [Option.some.injEq] at h
       subst h
       exact ok_eqv dst ty pos af g hop (zCZ hk) (by have h3 := hkt1 k hk; cases k <;> first | trivial | exact h3.1 rfl | exact h3.2 rfl) h1 h2
      ·cases h
   ·rename_i k hnn hk
    simp only [Option.some.injEq] at h
    subst h
    exact ok_eqv dst ty pos af g hop (zCZ hk) (by have h3 := hkt1 k hk; cases k <;> first | trivial | exact h3.1 rfl | exact h3.2 rfl) h1 h2
   ·rename_i ks hnn hk
    obtain ⟨hg, h⟩ := zFZ h
    simp only [Option.some.injEq] at h
    subst h
    exact ok_eqv dst ty pos af g hop (zCZ hk) hg h1 h2
   ·cases h
 case call c =>
  obtain ⟨callee, args, ts⟩ := c
  cases callee with
  | value f =>
   simp only [Option.bind_eq_some_iff, Option.some.injEq] at h
   obtain ⟨_, h1, _, h2, rfl⟩ := h
   exact ok_call dst ty pos af g h1 h2
  | invoke => cases h
  | builtin b =>
   simp only at h
   split at h
   ·rename_i t u s x hts hargs
    cases hu : P.underlying t with
    | none => simp [hu] at h
    | some d =>
     cases d <;> simp only [hu, reduceCtorEq] at h
     rename_i e
     cases hu2 : P.underlying u with
     | none => simp [hu2] at h
     | some d2 =>
      cases d2 <;> simp only [hu2, reduceCtorEq] at h
      all_goals
       simp only [Option.bind_eq_bind, Option.bind_eq_some_iff] at h
       obtain ⟨sz, h1, z, h2, bt, h3, s', h4, x', h5, h⟩ := h
       obtain ⟨hc, h⟩ := zFZ h
       simp only [Option.some.injEq] at h
       subst h
       simp only [Bool.or_eq_false_iff, Bool.not_eq_false'] at hc
       obtain ⟨hc1, hc2⟩ := hc
      case string =>
       have hc1 := zAL.1 hc1
       exact ok_append dst ty pos af g hts hargs hu (.inl ⟨hu2, hc1⟩) h1 h3 h2 (zAL.1 hc2) (by omega) h4 h5
      case slice =>
       exact ok_append dst ty pos af g hts hargs hu (.inr ⟨_, hu2⟩) h1 h3 h2 (zAL.1 hc2) (fun h0 => by rw [zAL.2 h0] at hc1; cases hc1) h4 h5
   ·rename_i t x hts hargs
    cases hu : P.underlying t with
    | none => simp [hu] at h
    | some d =>
     cases d <;> simp only [hu, reduceCtorEq, Option.bind_eq_bind, Option.bind_eq_some_iff, Option.some.injEq] at h
     case string => obtain ⟨_, h1, rfl⟩ := h; exact ok_lenS dst ty pos af g hts hargs hu h1
     case slice => obtain ⟨_, h1, rfl⟩ := h; exact ok_lenL dst ty pos af g hts hargs hu h1
     case map => obtain ⟨_, h1, rfl⟩ := h; exact ok_lenM dst ty pos af g hts hargs hu h1
   ·simp only [Option.bind_eq_bind, Option.bind_eq_some_iff, Option.some.injEq] at h
    obtain ⟨_, h1, rfl⟩ := h
    exact ok_max dst ty pos af g h1
   ·simp only [Option.bind_eq_bind, Option.bind_eq_some_iff, Option.some.injEq] at h
    obtain ⟨_, h1, rfl⟩ := h
    exact ok_min dst ty pos af g h1
   ·rename_i t u s x hts hargs
    cases hu : P.underlying t with
    | none => simp [hu] at h
    | some d =>
     cases d <;> simp only [hu, reduceCtorEq] at h
     simp only [Option.bind_eq_bind, Option.bind_eq_some_iff, Option.some.injEq] at h
     obtain ⟨kt, h1, s', h4, x', h5, rfl⟩ := h
     exact ok_delete dst ty pos af g hts hargs hu h1 h4 h5
   ·rename_i t s hts hargs
    cases hu : P.underlying t with
    | none => simp [hu] at h
    | some d =>
     cases d <;> simp only [hu, reduceCtorEq] at h
     case slice e =>
      simp only [Option.bind_eq_bind, Option.bind_eq_some_iff] at h
      obtain ⟨z, h1, s', h4, h⟩ := h
      obtain ⟨hc, h⟩ := zFZ h
      simp only [Option.some.injEq] at h
      subst h
      exact ok_clearS dst ty pos af g hts hargs hu h1 (fun h0 => by rw [zAL.2 h0] at hc; cases hc) h4
     case map =>
      simp only [Option.bind_eq_bind, Option.bind_eq_some_iff, Option.some.injEq] at h
      obtain ⟨s', h4, rfl⟩ := h
      exact ok_clearM dst ty pos af g hts hargs hu h4
   ·cases h
end
end Go.AM
namespace Go.AM
open Go
structure Holds {R : Type} (A : Ans R) (H : R → Prop) : Prop where
 fail : ¬ H A.fail
 both : ∀ x y, H (A.both x y) → H x ∧ H y
def zDb (f' : Value) (args' : List Value) : Sem Next := do let d ← Deferred.ofValue f' ⟨args'⟩; invoke d.target d.args
def Fr (r : Option Nat) : Fence := { Fence.wide with round := r }
def zBJ {R : Type} (H : R → Prop) (ρ : Ren) (m : Mem) (w : World) (K : V → Mem → R) : Ending → World → Prop
 | .returned v', w' => ∃ (ρ' : Ren) (v : V) (m' : Mem), VR ρ' v v' ∧ MR ρ' m' w' ∧ Ext ρ m w ρ' m' w' ∧ H (K v m')
 | _, _ => False
def Does (P : Program) (f' : Value) (args' : List Value) (w : World) (post : Ending → World → Prop) : Prop :=
 (∃ g xs, (zDb f' args').run P w = .ok (.enter g xs) w ∧ Calls P g xs w post) ∨
 (∃ l fn ts a b, f' = .func (.yield l) ⟨[]⟩ ⟨[]⟩ ∧ (zDb f' args').run P w = .ok (.round l fn ts a b) w ∧ RoundIn Fence.wide 0 P l fn ts a b w post)
def zDM {R : Type} (P : Program) (cf : CF R) (H : R → Prop) (ρ₀ : Ren) : Prop :=
 ∀ (ρ : Ren) (m : Mem) (w : World) (f : V) (f' : Value) (args : List V) (args' : List Value) (K : V → Mem → R), ρ₀.le ρ → MR ρ m w → VR ρ f f' → VRs ρ args args' → H (cf f args m K) → Does P f' args' w (zBJ H ρ m w K)
theorem zDM.mono {R : Type} {P : Program} {cf : CF R} {H : R → Prop} {ρ₀ ρ₁ : Ren} (h : zDM P cf H ρ₀) (hle : ρ₀.le ρ₁) : zDM P cf H ρ₁ :=
 fun ρ m w f f' args args' K h1 => h ρ m w f f' args args' K (Ren.le_trans hle h1)
def YOk {R : Type} (P : Program) (Y : Ys R) (H : R → Prop) (ρ₀ : Ren) : Prop :=
 ∀ l h, Y l = some h → ∀ ρ, ρ₀.le ρ → ∃ i, ρ l = some i ∧ ∀ (m : Mem) (w : World) (args : List V) (args' : List Value) (K : V → Mem → R), MR ρ m w → VRs ρ args args' → H (h args m K) →
  Does P (.func (.yield i.b) ⟨[]⟩ ⟨[]⟩) args' w (zBJ H ρ m w K)
theorem YOk.mono {R : Type} {P : Program} {Y : Ys R} {H : R → Prop} {ρ₀ ρ₁ : Ren} (h : YOk P Y H ρ₀) (hle : ρ₀.le ρ₁) : YOk P Y H ρ₁ := fun l hh hy ρ h1 => h l hh hy ρ (Ren.le_trans hle h1)
theorem YOk.none {R : Type} {P : Program} {H : R → Prop} {ρ₀ : Ren} : YOk P (Ys.none : Ys R) H ρ₀ := fun l hh hy => by cases hy
def CFOk {R : Type} (P : Program) (cfy : Ys R → CF R) (H : R → Prop) : Prop := ∀ (Y : Ys R) (ρ₀ : Ren), YOk P Y H ρ₀ → zDM P (cfy Y) H ρ₀
def DOk (lo : Nat) (w : World) (ds : List Deferred) : Prop := ∃ rs : List Nat, ds = rs.map (fun r => { target := .collected r, args := #[] }) ∧ rs.Nodup ∧ ∀ r ∈ rs, lo ≤ r ∧ w.heap[r]? = some (.deferred (some []))
theorem DOk.nil (lo : Nat) (w : World) : DOk lo w [] := ⟨[], rfl, .nil, fun _ h => by cases h⟩
theorem MR.notDeferred {ρ : Ren} {m : Mem} {w : World} (hm : MR ρ m w) {b : Nat} {i : Img} {o : zAe} (hb : ρ b = some i) (ho : m.get b = some o) (hl : o.live = true) {x : Option (List Deferred)} : w.heap[i.b]? ≠ some (.deferred x) := by
 intro he
 have h := hm.obj b i o hb ho
 cases o with
 | cells cs ro => obtain ⟨_, _, _, _, h1, _⟩ := h; rw [he] at h1; cases h1
 | map es c ro => obtain ⟨_, h1, _⟩ := h; rw [he] at h1; cases h1
 | iter mo a b c =>
  cases mo with
  | none => obtain ⟨_, h1⟩ := h; rw [he] at h1; cases h1
  | some mb => obtain ⟨_, _, _, h1⟩ := h; rw [he] at h1; cases h1
 | loop st p => obtain ⟨_, _, _, _, h1⟩ := h; rw [he] at h1; cases h1
 | dead => cases hl
theorem lt_of_heap {w : World} {r : Nat} {o : Obj} (h : w.heap[r]? = some o) : r < w.heap.size := (Array.getElem?_eq_some_iff.1 h).1
theorem DOk.ext {lo : Nat} {ρ ρ' : Ren} {m m' : Mem} {w w' : World} {ds : List Deferred} (h : DOk lo w ds) (hm : MR ρ m w) (hx : Ext ρ m w ρ' m' w') : DOk lo w' ds := by
 obtain ⟨rs, h1, h2, h3⟩ := h
 refine ⟨rs, h1, h2, fun r hr => ?_⟩
 refine ⟨(h3 r hr).1, ?_⟩
 rw [hx.keep r (lt_of_heap (h3 r hr).2) fun b i o hb hi ho => ?_]
 ·exact (h3 r hr).2
 ·cases hw : o.wr with
  | false => rfl
  | true =>
   subst hi
   exact (hm.notDeferred hb ho (zAe.live_of_wr hw) (h3 _ hr).2).elim
theorem DOk.push {lo : Nat} {w w' : World} {o : Obj} {ds : List Deferred} (h : DOk lo w ds) (hp : Push w w' o) : DOk lo w' ds := by
 obtain ⟨rs, h1, h2, h3⟩ := h
 refine ⟨rs, h1, h2, fun r hr => ?_⟩
 have := lt_of_heap (h3 r hr).2
 rw [hp.1, Array.getElem?_push, if_neg (by omega)]
 exact h3 r hr
section
variable {R : Type} {A : Ans R} {cf : CF R} {H : R → Prop} {P : Program} {nt : Nat} {lo : Nat} {ρ₀ : Ren} {r : Option Nat}
theorem allR_mem (hA : Holds A H) {K : V → Mem → R} : ∀ {l : List (V × Mem)}, H (allR A K l) → ∀ vm ∈ l, H (K vm.1 vm.2)
 | [], h, _, _ => (hA.fail h).elim
 | [(v, m)], h, vm, hm => by
  simp only [List.mem_singleton] at hm
  subst hm
  exact h
 | (v, m) :: x :: l, h, vm, hm => by
  have h' := hA.both _ _ h
  simp only [List.mem_cons] at hm
  rcases hm with rfl | hm
  ·exact h'.1
  ·exact allR_mem hA h'.2 vm (by simpa using hm)
theorem upon_of_does {f' : Value} {args' : List Value} {ρ : Ren} {m : Mem} {w : World} {K : V → Mem → R} (h : Does P f' args' w (zBJ H ρ m w K)) {o : Oper} {a : Act} {next : Act → World → Prop} {Q : Exit → Act → World → Prop}
  (hn : ∀ (ρ' : Ren) (v : V) (v' : Value) (m' : Mem) (w' : World), VR ρ' v v' → MR ρ' m' w' → Ext ρ m w ρ' m' w' → H (K v m') → next (a.put o.dst v') w') : o.uponIn (Fr r) 0 P a next Q ((zDb f' args').run P w) := by
 have post : ∀ e w', zBJ H ρ m w K e w' → (match e, w' with | .returned v, w'' => next (a.put o.dst v) w'' | .panicked chain, w'' => Q (.panic chain) a w'' | .outgrown, _ => LetsOut Q : Prop) := by
  intro e w' he
  cases e with
  | returned v' => obtain ⟨ρ', v, m', h1, h2, h3, h4⟩ := he; exact hn ρ' v v' m' w' h1 h2 h3 h4
  | panicked chain => exact he.elim
  | outgrown => exact he.elim
 rcases h with ⟨g, xs, hrun, hc⟩ | ⟨l, fn, ts, ca, cb, _, hrun, hc⟩
 ·rw [hrun, Oper.uponIn_enter]
  refine ⟨fun h => (by cases h), ?_⟩
  have h1 : CallsIn (Fr r) 0 P g xs w (zBJ H ρ m w K) := (callsIn_wide (n := 0)).2 hc
  exact h1.mono post
 ·rw [hrun, Oper.uponIn_round]
  refine ⟨fun h => (by cases h), ?_⟩
  have h1 : RoundIn (Fr r) 0 P l fn ts ca cb w (zBJ H ρ m w K) := hc
  exact h1.mono post
theorem zHn (hA : Holds A H) (hcf : zDM P cf H ρ₀) {o : Oper} (hnd : ∀ c, o.op ≠ .defer c) {ao : AOp} (hok : zCD P nt o ao) {ρ : Ren} {T : zAa} {a : Act} {m : Mem} {w : World} (hs : SR ρ nt T a.tmps) (hm : MR ρ m w) (hle : ρ₀.le ρ)
  {K : V → Mem → R} (h : H (zCE A cf ao T m K)) {next : Act → World → Prop} {Q : Exit → Act → World → Prop}
  (hn : ∀ (ρ' : Ren) (v : V) (v' : Value) (m' : Mem) (w' : World), VR ρ' v v' → MR ρ' m' w' → Ext ρ m w ρ' m' w' → H (K v m') → next (a.put o.dst v') w') : o.wpIn (Fr r) 0 P a w next Q := by
 refine ⟨fun _ _ => trivial, ?_⟩
 rw [Oper.semAt_eq _ _ _ hnd]
 cases ao with
 | quiet r f =>
  obtain ⟨h1, _, _⟩ := hok
  simp only [zCE] at h
  split at h
  ·rename_i v hv
   obtain ⟨v', h2, h3⟩ := h1 ρ T a m w v hs hm hv
   rw [h2]
   exact hn ρ v v' m w h3 hm (Ext.refl ρ m w) h
  ·exact (hA.fail h).elim
 | alloc f =>
  obtain ⟨h1, _, _⟩ := hok
  simp only [zCE] at h
  split at h
  ·rename_i v ob hv
   obtain ⟨v', ob', w', n, h2, h3, h4⟩ := h1 ρ T a w m.next v ob hs hv
   rw [h2]
   have hfree : ρ m.next = none := by
    cases e : ρ m.next with
    | none => rfl
    | some i => have := (hm.lt _ _ e).1; omega
   obtain ⟨h5, h6⟩ := h4 (ρ.put m.next ⟨w.heap.size, n, 0, none⟩) (Ren.le_put hfree) (Ren.put_self _ _ _)
   obtain ⟨h7, h8⟩ := hm.alloc h3 h6
   exact hn _ v v' _ w' h5 h7 h8 h
  ·exact (hA.fail h).elim
 | loud f =>
  obtain ⟨h1, _⟩ := hok
  simp only [zCE] at h
  split at h
  ·rename_i v m' hv
   obtain ⟨nx, v', w', ρ', h2, h3, h4, h5, h6⟩ := h1 ρ T a m w v m' hs hm hv
   rw [h2]
   rcases h3 with rfl | ⟨rfl, rfl⟩
   ·exact hn _ v v' _ w' h4 h5 h6 h
   ·exact hn _ v _ _ w' h4 h5 h6 h
  ·exact (hA.fail h).elim
 | next it =>
  obtain ⟨h1, _⟩ := hok
  simp only [zCE] at h
  split at h
  ·rename_i l hl
   obtain ⟨vm, hvm, nx, v', w', ρ', h2, h3, h4, h5, h6⟩ := h1 ρ T a m w l hs hm hl
   rw [h2]
   have hK := allR_mem hA h vm hvm
   rcases h3 with rfl | ⟨rfl, rfl⟩
   ·exact hn _ _ v' _ w' h4 h5 h6 hK
   ·exact hn _ _ _ _ w' h4 h5 h6 hK
  ·exact (hA.fail h).elim
 | call f args =>
  obtain ⟨h1, _⟩ := hok
  simp only [zCE] at h
  obtain ⟨f', args', h2, h3, h4⟩ := h1 ρ T a hs
  rw [h4]
  exact upon_of_does (hcf ρ m w _ f' _ args' K hle hm h2 h3 h) hn
structure zBO (P : Program) (nt : Nat) (ops : Array Oper) (o : Oper) (ao : zAO) : Prop where
 nodefer : ∀ c, o.op ≠ .defer c
 op : zCD P nt o ao.op
 dst : (o.dst = none ∧ ao.dst = none) ∨ ∃ n, n < nt ∧ o.dst = some n ∧ ao.dst = some (zAW n)
 guard : (o.guard = none ∧ ao.guard = none) ∨ ∃ j want oj d, o.guard = some (j, want) ∧ ops[j]? = some oj ∧ oj.dst = some d ∧ d < nt ∧ ao.guard = some (zAW d, want)
theorem zIl {ops : Array Oper} {o : Oper} {ao : zAO} (h : zJh P nt ops o = some ao) : zBO P nt ops o ao := by
 simp only [zJh, Option.bind_eq_bind, Option.bind_eq_some_iff] at h
 obtain ⟨op, h1, g, h2, h⟩ := h
 have hnd : ∀ c, o.op ≠ .defer c := by
  intro c hc
  rw [hc] at h1
  simp [compOp] at h1
 have hg : (o.guard = none ∧ g = none) ∨ ∃ j want oj d, o.guard = some (j, want) ∧ ops[j]? = some oj ∧ oj.dst = some d ∧ d < nt ∧ g = some (zAW d, want) := by
  cases hgo : o.guard with
  | none => rw [hgo] at h2; simp only [zHM, Option.some.injEq] at h2; exact .inl ⟨rfl, h2.symm⟩
  | some jw =>
   obtain ⟨j, want⟩ := jw
   rw [hgo] at h2
   simp only [zHM] at h2
   split at h2
   ·rename_i oj hoj
    split at h2
    ·rename_i d hd
     obtain ⟨h3, h4⟩ := zAF h2
     simp only [Option.some.injEq] at h4
     exact .inr ⟨j, want, oj, d, rfl, hoj, hd, zAV.1 h3, h4.symm⟩
    ·cases h2
   ·cases h2
 cases hd : o.dst with
 | none =>
  rw [hd] at h
  simp only [Option.some.injEq] at h
  subst h
  exact ⟨hnd, zGB h1, .inl ⟨hd, rfl⟩, hg⟩
 | some d =>
  rw [hd] at h
  obtain ⟨h3, h4⟩ := zAF h
  simp only [Option.some.injEq] at h4
  subst h4
  exact ⟨hnd, zGB h1, .inr ⟨d, zAV.1 h3, hd, rfl⟩, hg⟩
theorem zEl {ops : Array Oper} : ∀ {l : List Oper} {al : List zAO}, zEm P nt ops l = some al → zET (zBO P nt ops) l al
 | [], al, h => by simp only [zEm, Option.some.injEq] at h; subst h; exact .nil
 | o :: l, al, h => by
  simp only [zEm] at h
  split at h
  ·rename_i ao al' h1 h2
   simp only [Option.some.injEq] at h
   subst h
   exact .cons (zIl h1) (zEl h2)
  ·cases h
theorem zDg {ops : Array Oper} {o : Oper} {ao : zAO} (hok : zBO P nt ops o ao) {ρ : Ren} {T : zAa} {a : Act} (hs : SR ρ nt T a.tmps) : Region.wanted o (yielded ops a.tmps) = zAT ao T := by
 rcases hok.guard with ⟨h1, h2⟩ | ⟨j, want, oj, d, h1, h2, h3, h4, h5⟩
 ·simp [Region.wanted, zAT, h1, h2]
 ·have hv := hs.get d h4
  have hd : a.tmps[d]? = some (a.tmps.getD d Go.undef) := by
   simp [Array.getD_eq_getD_getElem?, hs.size, h4]
  simp only [Region.wanted, h1, zAT, h5, yielded, h2, Option.bind_some, h3, hd]
  generalize T.get (zAW d) = v at hv
  generalize a.tmps.getD d Go.undef = v' at hv
  cases hv <;> first
   | (rename_i hnb
      cases v' <;> first | (rename_i b; exact absurd rfl (hnb b)) | simp
      done)
   | simp
theorem zFu {ops : Array Oper} {o : Oper} {ao : zAO} (hok : zBO P nt ops o ao) {ρ : Ren} {T : zAa} {a : Act} (hs : SR ρ nt T a.tmps) {v : V} {v' : Value} (hv : VR ρ v v') : SR ρ nt (zD7 ao.dst v T) (a.put o.dst v').tmps :=
 hs.put hv hok.dst
theorem put_defers (a : Act) (dst : Option Tmp) (v : Value) : (a.put dst v).defers = a.defers := by
 cases dst <;> rfl
structure At (lo : Nat) (ρ₀ : Ren) (m₀ : Mem) (w₀ : World) (nt : Nat) (ρ : Ren) (T : zAa) (m : Mem) (a : Act) (w : World) : Prop where
 sr : SR ρ nt T a.tmps
 mr : MR ρ m w
 ext : Ext ρ₀ m₀ w₀ ρ m w
 df : DOk lo w a.defers
theorem zGd (hA : Holds A H) (hcf : zDM P cf H ρ₀) {ops : Array Oper} {Q : Exit → Act → World → Prop} {m₀ : Mem} {w₀ : World} {K : zAa → Mem → R}
  (hQ : ∀ (ρ : Ren) (T : zAa) (m : Mem) (a : Act) (w : World), At lo ρ₀ m₀ w₀ nt ρ T m a w → H (K T m) → Q .normal a w) :
  ∀ (l : List Oper) (al : List zAO) (is : List Nat), zET (zBO P nt ops) l al → zET (fun i o => ops[i]? = some o) is l → ∀ (ρ : Ren) (T : zAa) (m : Mem) (a : Act) (w : World),
   At lo ρ₀ m₀ w₀ nt ρ T m a w → H (opers A cf al T m K) → wpOpsIn (Fr r) 0 P ops Q is a w
 | _, _, _, .nil, .nil, ρ, T, m, a, w, hat, h => hQ ρ T m a w hat h
 | o :: l, ao :: al, i :: is, .cons ho hl, .cons hi his, ρ, T, m, a, w, hat, h => by
  simp only [opers] at h
  simp only [wpOpsIn, hi, zDg ho hat.sr]
  cases hw : zAT ao T with
  | true =>
   rw [hw] at h
   simp only [cond_true] at h
   simp only [if_true]
   refine (zHn hA hcf ho.nodefer ho.op hat.sr hat.mr hat.ext.ren h fun ρ' v v' m' w' h1 h2 h3 h4 => ?_)
   exact zGd hA hcf hQ l al is hl his ρ' _ m' _ w' ⟨zFu ho (hat.sr.mono h3.ren) h1, h2, hat.ext.trans h3, by rw [put_defers]; exact hat.df.ext hat.mr h3⟩ h4
  | false =>
   rw [hw] at h
   simp only [cond_false] at h
   simp only [Bool.false_eq_true, if_false]
   exact ⟨fun _ _ => trivial, zGd hA hcf hQ l al is hl his ρ _ m _ w ⟨zFu ho hat.sr (VR.undef ρ), hat.mr, hat.ext, by rw [put_defers]; exact hat.df⟩ h⟩
theorem all2_range {ops : Array Oper} : zET (fun i o => ops[i]? = some o) (List.range ops.size) ops.toList := by
 have : ∀ (l : List Oper) (k : Nat), (∀ j, l[j]? = ops[k + j]?) → zET (fun i o => ops[i]? = some o) ((List.range l.length).map (k + ·)) l := by
  intro l
  induction l with
  | nil => intro k _; exact .nil
  | cons o l ih =>
   intro k hk
   rw [List.length_cons, List.range_succ_eq_map]
   simp only [List.map_cons, List.map_map]
   refine .cons (by simpa using (hk 0).symm) ?_
   have := ih (k + 1) (fun j => by have := hk (j + 1); simpa [Nat.add_assoc, Nat.add_comm 1 j] using this)
   have e : (fun x => k + x) ∘ Nat.succ = fun x => k + 1 + x := by funext x; simp; omega
   rw [e]
   exact this
 have h := this ops.toList 0 (by simp)
 simpa using h
theorem region_sound (hA : Holds A H) (hcf : zDM P cf H ρ₀) {id : Nat} {ops : Array Oper} {al : List zAO} (hl : zET (zBO P nt ops) ops.toList al) {Q : Exit → Act → World → Prop} {m₀ : Mem} {w₀ : World} {K : zAa → Mem → R}
  (hQ : ∀ (ρ : Ren) (T : zAa) (m : Mem) (a : Act) (w : World), At lo ρ₀ m₀ w₀ nt ρ T m a w → H (K T m) → Q .normal a w) {ρ : Ren} {T : zAa} {m : Mem} {a : Act} {w : World}
  (hat : At lo ρ₀ m₀ w₀ nt ρ T m a w) (h : H (opers A cf al T m K)) : (Code.region id ops false).wpIn (Fr r) 0 P Q a w :=
 wpIn_region (zGd hA hcf hQ ops.toList al _ hl all2_range ρ T m a w hat h)
end
end Go.AM
namespace Go.AM
open Go
theorem V.eqB_eq {a b : V} (h : a.eqB b = true) : a = b := by
 fun_induction V.eqB a b <;> simp_all [zAL, zD3]
theorem zI9 : ∀ {a b : List V}, eqBs a b = true → a = b
 | [], [], _ => rfl
 | [], _ :: _, h => by cases h
 | _ :: _, [], h => by cases h
 | x :: a, y :: b, h => by
  simp only [eqBs, Bool.and_eq_true] at h
  rw [V.eqB_eq h.1, zI9 h.2]
theorem V.eqB1_eq {a b : V} (h : a.eqB1 b = true) : a = b := by
 unfold V.eqB1 at h
 split at h
 ·rw [zI9 h]
 ·rw [zI9 h]
 ·exact V.eqB_eq h
theorem eqEs_eq : ∀ {a b : List (V × V × Nat)}, eqEs a b = true → a = b
 | [], [], _ => rfl
 | [], _ :: _, h => by cases h
 | _ :: _, [], h => by cases h
 | (k, v, n) :: a, (k', v', n') :: b, h => by
  simp only [eqEs, Bool.and_eq_true, zAL] at h
  obtain ⟨⟨⟨h1, h2⟩, h3⟩, h4⟩ := h
  rw [V.eqB1_eq h1, V.eqB1_eq h2, h3, eqEs_eq h4]
theorem zAe.eqB_eq {a b : zAe} (h : a.eqB b = true) : a = b := by
 unfold zAe.eqB at h
 split at h
 ·simp only [Bool.and_eq_true, beq_iff_eq] at h
  rw [h.1, zI9 h.2]
 ·simp only [Bool.and_eq_true, beq_iff_eq, zAL] at h
  rw [eqEs_eq h.1.1, h.1.2, h.2]
 ·cases h
theorem zDl {i : Nat} : ∀ {l : List Nat}, memB i l = true ↔ i ∈ l
 | [] => by simp [memB]
 | j :: l => by simp [memB, zAL, zDl (l := l)]
section
variable {ops : Array Oper}
def maskOf (acc : List Nat) (o : Oper) : Nat := o.after.toList.foldl (fun s e => bif Region.binds .any e then s ||| 2 ^ e.on ||| (acc.getD e.on 0) else s) 0
theorem mask_bit (acc : List Nat) (j : Nat) : ∀ (l : List Edge) (s : Nat), (l.foldl (fun s e => bif Region.binds .any e then s ||| 2 ^ e.on ||| (acc.getD e.on 0) else s) s).testBit j = true →
  s.testBit j = true ∨ ∃ e ∈ l, Region.binds .any e = true ∧ (e.on = j ∨ (acc.getD e.on 0).testBit j = true)
 | [], s, h => .inl h
 | e :: l, s, h => by
  rcases mask_bit acc j l _ h with h | ⟨e', h1, h2⟩
  ·cases hb : Region.binds .any e with
   | false => simp only [hb, cond_false] at h; exact .inl h
   | true =>
    simp only [hb, cond_true, Nat.testBit_or, Bool.or_eq_true, Nat.testBit_two_pow, decide_eq_true_eq] at h
    rcases h with (h | h) | h
    ·exact .inl h
    ·exact .inr ⟨e, List.mem_cons_self, hb, .inl h⟩
    ·exact .inr ⟨e, List.mem_cons_self, hb, .inr h⟩
  ·exact .inr ⟨e', List.mem_cons_of_mem _ h1, h2⟩
def GoodAcc (ops : Array Oper) (acc : List Nat) : Prop :=
 ∀ i j, (acc.getD i 0).testBit j = true → ∃ o, ops[i]? = some o ∧ ∃ e ∈ o.after, Region.binds .any e = true ∧ (e.on = j ∨ (e.on < i ∧ (acc.getD e.on 0).testBit j = true))
theorem getD_lt {acc : List Nat} {i j : Nat} (h : (acc.getD i 0).testBit j = true) : i < acc.length := by
 rcases Nat.lt_or_ge i acc.length with h' | h'
 ·exact h'
 ·rw [List.getD_eq_getElem?_getD, List.getElem?_eq_none h'] at h
  simp at h
theorem zIt : ∀ (l d : List Oper) (acc : List Nat), ops.toList = d ++ l → acc.length = d.length → GoodAcc ops acc →
  GoodAcc ops (l.foldl (fun acc o => acc ++ [maskOf acc o]) acc)
 | [], _, _, _, _, h => h
 | o :: l, d, acc, hd, hl, h => by
  refine zIt l (d ++ [o]) (acc ++ [maskOf acc o]) (by simp [hd]) (by simp [hl]) ?_
  intro i j hij
  have hlt := getD_lt hij
  simp only [List.length_append, List.length_singleton] at hlt
  by_cases hi : i < acc.length
  ·have e1 : ∀ x, x < acc.length → (acc ++ [maskOf acc o]).getD x 0 = acc.getD x 0 := by
    intro x hx
    simp [List.getD_eq_getElem?_getD, List.getElem?_append_left hx]
   rw [e1 i hi] at hij
   obtain ⟨o', h1, e, h2, h3, h4⟩ := h i j hij
   refine ⟨o', h1, e, h2, h3, ?_⟩
   rcases h4 with h4 | ⟨h4, h5⟩
   ·exact .inl h4
   ·exact .inr ⟨h4, by rw [e1 _ (by omega)]; exact h5⟩
  ·have hi' : i = acc.length := by omega
   have e2 : (acc ++ [maskOf acc o]).getD i 0 = maskOf acc o := by
    subst hi'
    simp [List.getD_eq_getElem?_getD]
   rw [e2] at hij
   have ho : ops[i]? = some o := by
    have : ops.toList[i]? = some o := by
     rw [hd, hi', hl]
     simp
    simpa using this
   rcases mask_bit acc j _ 0 hij with h1 | ⟨e, h1, h2, h3⟩
   ·simp at h1
   ·refine ⟨o, ho, e, Array.mem_toList_iff.1 h1, h2, ?_⟩
    rcases h3 with h3 | h3
    ·exact .inl h3
    ·have := getD_lt h3
     refine .inr ⟨by omega, ?_⟩
     simp only [List.getD_eq_getElem?_getD] at h3 ⊢
     rw [List.getElem?_append_left this]
     exact h3
theorem preds_spec : GoodAcc ops (zBB ops) :=
 zIt ops.toList [] [] rfl rfl (fun i j h => by simp at h)
def Closed (ops : Array Oper) (listed : Array Bool) : Prop :=
 ∀ i o, listed.getD i false = true → ops[i]? = some o → ∀ e ∈ o.after, Region.binds .any e = true → listed.getD e.on false = true
theorem zIu {listed : Array Bool} (hc : Closed ops listed) : ∀ (i : Nat), (∀ o, ops[i]? = some o → ∀ e ∈ o.after, Region.binds .any e = true → listed.getD e.on false = true) →
  ∀ j, ((zBB ops).getD i 0).testBit j = true → listed.getD j false = true := by
 intro i
 induction i using Nat.strongRecOn with
 | _ i ih =>
  intro hi j hj
  obtain ⟨o, h1, e, h2, h3, h4⟩ := preds_spec i j hj
  have h5 := hi o h1 e h2 h3
  rcases h4 with rfl | ⟨h4, h6⟩
  ·exact h5
  ·exact ih e.on h4 (fun o' ho' => hc e.on o' h5 ho') j h6
theorem Closed.set {listed : Array Bool} (hc : Closed ops listed) {i : Nat} (hi : i ∈ Region.ready .any ops listed) : Closed ops (listed.setIfInBounds i true) := by
 intro j o hj ho e he hb
 obtain ⟨_, o', ho', hall⟩ := mem_ready.1 hi
 apply getD_set_true
 by_cases hij : i = j
 ·subst hij
  have : o = o' := Option.some.inj (ho.symm.trans ho')
  subst this
  exact hall e he hb
 ·rw [getD_set_ne false hij] at hj
  exact hc j o hj ho e he hb
theorem zDB {listed : Array Bool} (hc : Closed ops listed) {i : Nat} (hi : i ∈ Region.ready .any ops listed) {j : Nat} (hj : ((zBB ops).getD i 0).testBit j = true) : listed.getD j false = true := by
 obtain ⟨_, o', ho', hall⟩ := mem_ready.1 hi
 refine zIu hc i (fun o ho => ?_) j hj
 have : o = o' := Option.some.inj (ho.symm.trans ho')
 subst this
 exact hall
theorem listed_pre {listed : Array Bool} (hc : Closed ops listed) {i : Nat} (hi : listed.getD i false = true) {j : Nat} (hj : ((zBB ops).getD i 0).testBit j = true) : listed.getD j false = true :=
 zIu hc i (fun o ho => hc i o hi ho) j hj
structure zCJ (ops : Array Oper) (aops : List zAO) (k : Nat) : Prop where
 edge : ∀ i o, ops[i]? = some o → ∀ e ∈ o.after, Region.binds .any e = true → e.on < i
 suf : ∀ i, k ≤ i → i < ops.size → ∀ j, j < i → ((zBB ops).getD i 0).testBit j = true
 dst : ∀ i j oi oj d, i < k → j < k → ops[i]? = some oi → ops[j]? = some oj → oi.dst = some d → oj.dst = some d → i = j
 look : ∀ i j oi oj d, i < k → j < k → ops[i]? = some oi → ops[j]? = some oj → oi.dst = some d → d ∈ oj.looksAt ops →
  ((zBB ops).getD j 0).testBit i = true ∨ (((zBB ops).getD i 0).testBit j = true ∧ (aops.getD j default).op.asks = false)
 le : k ≤ ops.size
theorem zJi {aops : List zAO} {k : Nat} (h : chkDraw ops aops (zBB ops) k = true) : zCJ ops aops k := by
 simp only [chkDraw, Bool.and_eq_true, List.all_eq_true, List.mem_range] at h
 obtain ⟨⟨h1, h2⟩, h3⟩ := h
 have h3 := zAA.1 h3
 refine ⟨fun i o ho e he hb => ?_, fun i hk hi j hj => ?_, fun i j oi oj d hi hj hoi hoj hd hd' => ?_, fun i j oi oj d hi hj hoi hoj hd hl => ?_, h3⟩
 ·have hi : i < ops.size := (Array.getElem?_eq_some_iff.1 ho).1
  have := h1 i hi
  rw [ho] at this
  simp only [Bool.and_eq_true, List.all_eq_true, Array.mem_toList_iff] at this
  have := this.1 e he
  rw [hb] at this
  simpa [zAV] using this
 ·have := h1 i hi
  have ho : ops[i]? = some ops[i] := by simp [hi]
  rw [ho] at this
  simp only [Bool.and_eq_true, Bool.or_eq_true, zAV, zAL] at this
  rcases this.2 with h4 | h4
  ·omega
  ·rw [h4, Nat.testBit_two_pow_sub_one]
   simpa using hj
 ·have := h2 i hi
  rw [hoi] at this
  simp only [hd, List.all_eq_true, List.mem_range] at this
  have := this j hj
  rw [hoj] at this
  simp only [Bool.and_eq_true, Bool.or_eq_true, zAL] at this
  rcases this.1 with h4 | h4
  ·exact h4
  ·simp [hd', zCG] at h4
 ·have := h2 i hi
  rw [hoi] at this
  simp only [hd, List.all_eq_true, List.mem_range] at this
  have := this j hj
  rw [hoj] at this
  simp only [Bool.and_eq_true, Bool.or_eq_true, Bool.not_eq_true'] at this
  rcases this.2 with (h4 | h4) | h4
  ·exact .inl h4
  ·have := zDl.2 hl
   rw [this] at h4; cases h4
  ·exact .inr h4
theorem zIL {aops : List zAO} {k : Nat} (hd : zCJ ops aops k) {listed : Array Bool} (hs : listed.size = ops.size) (hr : Region.ready .any ops listed = []) : ∀ i, i < ops.size → listed.getD i false = true := by
 intro i
 induction i using Nat.strongRecOn with
 | _ i ih =>
  intro hi
  cases hl : listed.getD i false with
  | true => rfl
  | false =>
   have ho : ops[i]? = some ops[i] := by simp [hi]
   have : i ∈ Region.ready .any ops listed := by
    rw [mem_ready]
    refine ⟨?_, _, ho, fun e he hb => ih e.on (hd.edge i _ ho e he hb) (by have := hd.edge i _ ho e he hb; omega)⟩
    have hlt : i < listed.size := by omega
    simp [hlt] at hl ⊢
    exact hl
   rw [hr] at this; cases this
def cnt (n : Nat) (listed : Array Bool) : Nat := (List.range n).countP fun i => !listed.getD i false
theorem countP_lt {p q : Nat → Bool} : ∀ (l : List Nat), (∀ x ∈ l, q x = true → p x = true) → ∀ i ∈ l, p i = true → q i = false → l.countP q < l.countP p
 | [], _, _, h, _, _ => by cases h
 | x :: l, hm, i, hi, hp, hq => by
  have hle : l.countP q ≤ l.countP p := List.countP_mono_left fun y hy => hm y (List.mem_cons_of_mem _ hy)
  rw [List.countP_cons, List.countP_cons]
  rcases List.mem_cons.1 hi with rfl | hi
  ·simp [hp, hq]; omega
  ·have := countP_lt l (fun y hy => hm y (List.mem_cons_of_mem _ hy)) i hi hp hq
   have h2 := hm x List.mem_cons_self
   cases h3 : q x <;> cases h4 : p x <;> simp_all <;> omega
theorem cnt_set {n : Nat} {listed : Array Bool} (hs : listed.size = n) {i : Nat} (hi : i < n) (hl : listed.getD i false = false) : cnt n (listed.setIfInBounds i true) < cnt n listed := by
 refine countP_lt _ (fun x _ hx => ?_) i (List.mem_range.2 hi) (by simp [hl]) ?_
 ·by_cases e : i = x
  ·subst e; simp [hl]
  ·rw [getD_set_ne false e] at hx; exact hx
 ·simp [hs, hi]
theorem cnt_zero {n : Nat} {listed : Array Bool} (h : cnt n listed = 0) : ∀ i, i < n → listed.getD i false = true := by
 intro i hi
 have := List.countP_eq_zero.1 h i (List.mem_range.2 hi)
 simpa using this
theorem not_ready {listed : Array Bool} (h : ∀ i, i < ops.size → listed.getD i false = true) : Region.ready .any ops listed = [] := by
 apply List.eq_nil_iff_forall_not_mem.2
 intro i hi
 obtain ⟨h1, o, ho, _⟩ := mem_ready.1 hi
 have hlt := (Array.getElem?_eq_some_iff.1 ho).1
 have h2 := h i hlt
 rcases Nat.lt_or_ge i listed.size with h' | h'
 ·simp [h'] at h1 h2; rw [h1] at h2; cases h2
 ·simp [Array.getElem?_eq_none h'] at h1
theorem zBD {listed : Array Bool} (hs : listed.size = ops.size) {i : Nat} (hi : i ∈ Region.ready .any ops listed) : i < ops.size ∧ listed.getD i false = false := by
 obtain ⟨h1, o, ho, _⟩ := mem_ready.1 hi
 have hlt := (Array.getElem?_eq_some_iff.1 ho).1
 refine ⟨hlt, ?_⟩
 have hl : i < listed.size := by omega
 simp [hl] at h1 ⊢
 exact h1
end
end Go.AM
namespace Go.AM
open Go
section
variable {R : Type} {A : Ans R} {cf : CF R} {H : R → Prop} {P : Program} {nt : Nat} {lo : Nat} {ops : Array Oper} {aops : List zAO} {k : Nat}
def Seen (ops : Array Oper) (nt k : Nat) (j : Nat) (T T0 T1 : zAa) : Prop :=
 ∀ o, ops[j]? = some o → ∀ t, t ∈ o.looksAt ops → t < nt →
  ((∃ i oi, i < k ∧ ((zBB ops).getD j 0).testBit i = true ∧ ops[i]? = some oi ∧ oi.dst = some t) → T1.get (zAW t) = T.get (zAW t)) ∧
  ((¬ ∃ i oi, i < k ∧ ((zBB ops).getD j 0).testBit i = true ∧ ops[i]? = some oi ∧ oi.dst = some t) → T1.get (zAW t) = T0.get (zAW t))
theorem seen_look {j : Nat} {T T0 T1 T2 : zAa} (h1 : Seen ops nt k j T T0 T1) (h2 : Seen ops nt k j T T0 T2) {o : Oper} (ho : ops[j]? = some o) {t : Tmp} (ht : t ∈ o.looksAt ops) (hlt : t < nt) : T1.get (zAW t) = T2.get (zAW t) := by
 obtain ⟨a1, a2⟩ := h1 o ho t ht hlt
 obtain ⟨b1, b2⟩ := h2 o ho t ht hlt
 by_cases he : ∃ i oi, i < k ∧ ((zBB ops).getD j 0).testBit i = true ∧ ops[i]? = some oi ∧ oi.dst = some t
 ·rw [a1 he, b1 he]
 ·rw [a2 he, b2 he]
theorem zEv {j : Nat} {T T0 T1 T2 : zAa} (h1 : Seen ops nt k j T T0 T1) (h2 : Seen ops nt k j T T0 T2) {o : Oper} (ho : ops[j]? = some o) : Agree nt o.op T1 T2 := by
 rintro x hx t rfl hlt
 refine seen_look h1 h2 ho (List.mem_append_left _ (List.mem_filterMap.2 ⟨.tmp t, by simpa using hx, rfl⟩)) hlt
theorem zCu {j : Nat} {T T0 T1 T2 : zAa} (h1 : Seen ops nt k j T T0 T1) (h2 : Seen ops nt k j T T0 T2) {o : Oper} (ho : ops[j]? = some o) {ao : zAO} (hok : zBO P nt ops o ao) : zAT ao T1 = zAT ao T2 := by
 rcases hok.guard with ⟨_, g2⟩ | ⟨gj, want, oj, d, g1, g2, g3, g4, g5⟩
 ·simp [zAT, g2]
 ·have := seen_look h1 h2 ho (t := d) (List.mem_append_right _ (by simp [g1, g2, g3])) g4
  simp only [zAT, g5, this]
structure Pend (P : Program) (nt : Nat) (ops : Array Oper) (aops : List zAO) (k : Nat) (N : Nat → Option Nat) (T T0 : zAa) (m : Mem) (j : Nat) : Prop where
 calm : (aops.getD j default).op.loudB = false
 skip : ∀ T1, Seen ops nt k j T T0 T1 → zAT (aops.getD j default) T1 = false → ∀ s, (aops.getD j default).dst = some s → T.get s = .undef
 quiet : ∀ T1, Seen ops nt k j T T0 T1 → zAT (aops.getD j default) T1 = true → ∀ r f, (aops.getD j default).op = .quiet r f → ∃ v, f T1 m = some v ∧ ∀ s, (aops.getD j default).dst = some s → T.get s = v
 alloc : ∀ T1, Seen ops nt k j T T0 T1 → zAT (aops.getD j default) T1 = true → ∀ f, (aops.getD j default).op = .alloc f →
  ∃ nx v ob, N j = some nx ∧ f T1 nx = some (v, ob) ∧ (∀ s, (aops.getD j default).dst = some s → T.get s = v) ∧ m.get nx = some ob
structure Inv (lo : Nat) (P : Program) (nt : Nat) (ops : Array Oper) (aops : List zAO) (k : Nat) (ρ₀ : Ren) (m₀ : Mem) (w₀ : World) (T0 : zAa) (N : Nat → Option Nat) (listed : Array Bool) (before : List Nat) (ρ : Ren) (T T' : zAa) (m : Mem) (a : Act) (w : World) : Prop where
 size : listed.size = ops.size
 sub : ∀ i, listed.getD i false = true → i ∈ before
 lt : ∀ i ∈ before, i < k
 closed : Closed ops listed
 bpre : ∀ j ∈ before, ∀ i, i < k → ((zBB ops).getD j 0).testBit i = true → i ∈ before
 at' : At lo ρ₀ m₀ w₀ nt ρ T' m a w
 ag1 : ∀ i oi d, i < k → listed.getD i false = true → ops[i]? = some oi → oi.dst = some d → T'.get (zAW d) = T.get (zAW d)
 ag2 : ∀ t, t < nt → (∀ i oi, i < k → ops[i]? = some oi → oi.dst = some t → listed.getD i false = false) → T'.get (zAW t) = T0.get (zAW t)
 ag3 : ∀ t, t < nt → (∀ i oi, i ∈ before → ops[i]? = some oi → oi.dst ≠ some t) → T.get (zAW t) = T0.get (zAW t)
 pend : ∀ j, j ∈ before → listed.getD j false = false → Pend P nt ops aops k N T T0 m j
 fr : ∀ j nx, j ∈ before → listed.getD j false = false → N j = some nx → ρ nx = none ∧ m₀.next ≤ nx ∧ nx < m.next
 nj : ∀ i j nx, i ∈ before → j ∈ before → listed.getD i false = false → listed.getD j false = false → N i = some nx → N j = some nx → i = j
variable {ρ₀ : Ren} {m₀ : Mem} {w₀ : World} {T0 : zAa} {N : Nat → Option Nat} {listed : Array Bool} {before : List Nat} {ρ : Ren} {T T' : zAa} {m : Mem} {a : Act} {w : World}
theorem Inv.seen (hd : zCJ ops aops k) (h : Inv lo P nt ops aops k ρ₀ m₀ w₀ T0 N listed before ρ T T' m a w) {j : Nat} (hjk : j < k) (hj : j ∈ Region.ready .any ops listed) : Seen ops nt k j T T0 T' := by
 intro o ho t ht hlt
 have hun := (zBD h.size hj).2
 refine ⟨fun ⟨i, oi, hi, hb, hoi, hdi⟩ => h.ag1 i oi t hi (zDB h.closed hj hb) hoi hdi, fun hn => h.ag2 t hlt fun i oi hi hoi hdi => ?_⟩
 rcases hd.look i j oi o t hi hjk hoi ho hdi ht with h1 | ⟨h1, _⟩
 ·exact (hn ⟨i, oi, hi, h1, hoi, hdi⟩).elim
 ·cases hl : listed.getD i false with
  | false => rfl
  | true =>
   have := listed_pre h.closed hl h1
   rw [this] at hun; cases hun
theorem Inv.seenA (hd : zCJ ops aops k) (h : Inv lo P nt ops aops k ρ₀ m₀ w₀ T0 N listed before ρ T T' m a w) {j : Nat} (hjk : j < k) (hj : j ∉ before) : Seen ops nt k j T T0 T := by
 intro o ho t ht hlt
 refine ⟨fun _ => rfl, fun hn => h.ag3 t hlt fun i oi hi hoi hdi => ?_⟩
 rcases hd.look i j oi o t (h.lt i hi) hjk hoi ho hdi ht with h1 | ⟨h1, _⟩
 ·exact hn ⟨i, oi, h.lt i hi, h1, hoi, hdi⟩
 ·exact hj (h.bpre i hi j hjk h1)
theorem Inv.seenB (hd : zCJ ops aops k) (h : Inv lo P nt ops aops k ρ₀ m₀ w₀ T0 N listed before ρ T T' m a w) {j : Nat} (hj : j ∈ before) (has : (aops.getD j default).op.asks = true) : Seen ops nt k j T T0 T := by
 intro o ho t ht hlt
 refine ⟨fun _ => rfl, fun hn => h.ag3 t hlt fun i oi hi hoi hdi => ?_⟩
 rcases hd.look i j oi o t (h.lt i hi) (h.lt j hj) hoi ho hdi ht with h1 | ⟨_, h1⟩
 ·exact hn ⟨i, oi, h.lt i hi, h1, hoi, hdi⟩
 ·rw [has] at h1; cases h1
theorem dst_of {o : Oper} {ao : zAO} (hok : zBO P nt ops o ao) {s : Sl} (hs : ao.dst = some s) : ∃ d, d < nt ∧ o.dst = some d ∧ s = zAW d := by
 rcases hok.dst with ⟨_, h2⟩ | ⟨n, h1, h2, h3⟩
 ·rw [h2] at hs; cases hs
 ·rw [h3] at hs; cases hs; exact ⟨n, h1, h2, rfl⟩
theorem putD_get (dst : Option Sl) (v : V) (T : zAa) (s : Sl) (h : dst ≠ some s) : (zD7 dst v T).get s = T.get s := by
 cases dst with
 | none => rfl
 | some d =>
  simp only [zD7, zAa.get_set]
  rw [if_neg]
  rintro rfl
  exact h rfl
theorem zDD (v : V) (T : zAa) (s : Sl) : (zD7 (some s) v T).get s = v := by
 simp [zD7, zAa.get_set]
theorem zBA (hd : zCJ ops aops k) (h512 : nt ≤ 512) {i : Nat} {oi : Oper} {ai : zAO} (hi : i < k) (hoi : ops[i]? = some oi) (hok : zBO P nt ops oi ai) (v : V) (T : zAa) {t : Tmp} (ht : t < nt) (hne : oi.dst ≠ some t) : (zD7 ai.dst v T).get (zAW t) = T.get (zAW t) := by
 apply putD_get
 intro hs
 obtain ⟨d, h1, h2, h3⟩ := dst_of hok hs
 have := zF7 (Nat.lt_of_lt_of_le ht h512) (Nat.lt_of_lt_of_le h1 h512) h3
 subst this
 exact hne h2
theorem Inv.seen_put (hd : zCJ ops aops k) (h512 : nt ≤ 512) (h : Inv lo P nt ops aops k ρ₀ m₀ w₀ T0 N listed before ρ T T' m a w) {i : Nat} {oi : Oper} {ai : zAO} (hi : i < k) (hib : i ∉ before) (hoi : ops[i]? = some oi) (hok : zBO P nt ops oi ai) (v : V)
  {j : Nat} (hj : j ∈ before) {T1 : zAa} (hs : Seen ops nt k j (zD7 ai.dst v T) T0 T1) : Seen ops nt k j T T0 T1 := by
 intro o ho t ht hlt
 obtain ⟨h1, h2⟩ := hs o ho t ht hlt
 refine ⟨fun he => ?_, h2⟩
 rw [h1 he]
 obtain ⟨i', oi', hi', hb, hoi', hdi'⟩ := he
 apply zBA hd h512 hi hoi hok v T hlt
 intro hdi
 have := hd.dst i i' oi oi' t hi hi' hoi hoi' hdi hdi'
 subst this
 exact hib (h.bpre j hj i hi' hb)
end
end Go.AM
namespace Go.AM
open Go
section
variable {R : Type} {A : Ans R} {cf : CF R} {H : R → Prop} {P : Program} {nt : Nat} {lo : Nat} {ops : Array Oper} {aops : List zAO} {k : Nat}
variable {ρ₀ : Ren} {m₀ : Mem} {w₀ : World} {T0 : zAa} {N : Nat → Option Nat} {listed : Array Bool} {before : List Nat} {ρ : Ren} {T T' : zAa} {m : Mem} {a : Act} {w : World}
theorem At.new (h : At lo ρ₀ m₀ w₀ nt ρ T m a w) (ob : zAe) : At lo ρ₀ m₀ w₀ nt ρ T (m.new ob) a w := by
 have hne : ∀ b i, ρ b = some i → (m.new ob).get b = m.get b := by
  intro b i hb
  have := (h.mr.lt b i hb).1
  rw [Mem.get_new, if_neg (by omega)]
 refine ⟨h.sr, ⟨fun b i hb => ?_, fun b i o hb ho => ?_, fun b c i j o u hb hc hij ho hw hu hl => ?_⟩, ⟨h.ext.ren, h.ext.size, ?_, h.ext.fresh, h.ext.keep, fun b i o hb ho hw hlt => ?_, h.ext.mute⟩, h.df⟩
 ·have := h.mr.lt b i hb
  rw [Mem.next_new]
  exact ⟨by omega, this.2⟩
 ·rw [hne b i hb] at ho
  exact h.mr.obj b i o hb ho
 ·rw [hne b i hb] at ho
  rw [hne c j hc] at hu
  exact h.mr.inj b c i j o u hb hc hij ho hw hu hl
 ·have := h.ext.next
  rw [Mem.next_new]; omega
 ·rw [hne b i hb] at ho
  exact h.ext.old b i o hb ho hw hlt
theorem Ext.late (h : Ext ρ₀ m₀ w₀ ρ m w) {x : Nat} (hx : m₀.next ≤ x) (hfree : ρ x = none) {o' : Obj} {w' : World} (hw0 : Push w w' o') {n : Nat} :
  Ext ρ₀ m₀ w₀ (ρ.put x ⟨w.heap.size, n, 0, none⟩) m w' where
 ren := Ren.le_trans h.ren (Ren.le_put hfree)
 size := by have := h.size; rw [hw0.1]; simp; omega
 next := h.next
 fresh := fun b i hb => by
  by_cases e : b = x
  ·subst e; exact .inr hx
  ·rw [Ren.put_ne e] at hb; exact h.fresh b i hb
 keep := fun j hj hro => by
  have := h.size
  rw [hw0.1, Array.getElem?_push, if_neg (by omega)]
  exact h.keep j hj hro
 old := fun b i o hb ho hwr hlt => by
  by_cases e : b = x
  ·subst e
   rw [Ren.put_self] at hb
   cases hb
   have := h.size
   simp only at hlt
   omega
  ·rw [Ren.put_ne e] at hb; exact h.old b i o hb ho hwr hlt
 mute := h.mute.trans hw0.2
theorem Inv.ahead (hd : zCJ ops aops k) (hal : ∀ i o, ops[i]? = some o → zBO P nt ops o (aops.getD i default)) (h : Inv lo P nt ops aops k ρ₀ m₀ w₀ T0 N listed before ρ T T' m a w)
  {i : Nat} {oi : Oper} (hi : i < k) (hib : i ∉ before) (hoi : ops[i]? = some oi) (hmay : ∀ j, j < k → ((zBB ops).getD i 0).testBit j = true → j ∈ before) (v : V) {m' : Mem} (hm : m' = m ∨ ∃ ob, m' = m.new ob ∧ m.get m.next = none)
  (x : Option Nat) (hx : x = none ∨ (x = some m.next ∧ m'.next = m.next + 1))
  (hp : Pend P nt ops aops k (fun j => if j = i then x else N j) (zD7 (aops.getD i default).dst v T) T0 m' i) :
  Inv lo P nt ops aops k ρ₀ m₀ w₀ T0 (fun j => if j = i then x else N j) listed (before ++ [i]) ρ (zD7 (aops.getD i default).dst v T) T' m' a w := by
 have h512 := h.at'.sr.le
 have hok := hal i oi hoi
 have hne : ∀ j, j ∈ before → j ≠ i := fun j hj e => hib (e ▸ hj)
 have hnx : m.next ≤ m'.next := by
  rcases hm with rfl | ⟨ob, rfl, _⟩
  ·exact Nat.le_refl _
  ·rw [Mem.next_new]; omega
 have keepS : ∀ j, j ∈ before → ∀ s, (aops.getD j default).dst = some s → (zD7 (aops.getD i default).dst v T).get s = T.get s := by
  intro j hj s hs
  have hjk := h.lt j hj
  have hjs : j < ops.size := Nat.lt_of_lt_of_le hjk hd.le
  have hoj : ops[j]? = some ops[j] := by simp [hjs]
  obtain ⟨d, d1, d2, d3⟩ := dst_of (hal j _ hoj) hs
  subst d3
  apply zBA hd h512 hi hoi hok v T d1
  intro hdi
  exact hne j hj (hd.dst i j oi _ d hi hjk hoi hoj hdi d2).symm
 refine ⟨h.size, fun j hj => List.mem_append_left _ (h.sub j hj), fun j hj => ?_, h.closed, fun j hj c hc hb => ?_, ?_, fun j oj d hj hl hoj hdj => ?_, h.ag2, fun t ht hno => ?_, fun j hj hl => ?_, fun j nx hj hl hN => ?_, fun j c nx hj hc hlj hlc hNj hNc => ?_⟩
 ·rcases List.mem_append.1 hj with hj | hj
  ·exact h.lt j hj
  ·rw [List.mem_singleton.1 hj]; exact hi
 ·rcases List.mem_append.1 hj with hj | hj
  ·exact List.mem_append_left _ (h.bpre j hj c hc hb)
  ·rw [List.mem_singleton.1 hj] at hb
   exact List.mem_append_left _ (hmay c hc hb)
 ·rcases hm with rfl | ⟨ob, rfl, _⟩
  ·exact h.at'
  ·exact h.at'.new ob
 ·rw [h.ag1 j oj d hj hl hoj hdj]
  by_cases hdn : d < nt
  ·symm
   apply zBA hd h512 hi hoi hok v T hdn
   intro hdi
   exact hne j (h.sub j hl) (hd.dst i j oi oj d hi hj hoi hoj hdi hdj).symm
  ·exfalso
   rcases (hal j oj hoj).dst with ⟨h1, _⟩ | ⟨n, h1, h2, _⟩
   ·rw [h1] at hdj; cases hdj
   ·rw [h2] at hdj; cases hdj; exact hdn h1
 ·rw [zBA hd h512 hi hoi hok v T ht (hno i oi (by simp) hoi)]
  exact h.ag3 t ht fun j oj hj hoj => hno j oj (List.mem_append_left _ hj) hoj
 ·rcases List.mem_append.1 hj with hj | hj
  ·have hp' := h.pend j hj hl
   have hjs : j < ops.size := Nat.lt_of_lt_of_le (h.lt j hj) hd.le
   have hoj : ops[j]? = some ops[j] := by simp [hjs]
   have hokj := (hal j _ hoj).op
   refine ⟨hp'.calm, fun T1 hs hw s hds => ?_, fun T1 hs hw r f hf => ?_, fun T1 hs hw f hf => ?_⟩
   ·rw [keepS j hj s hds]
    exact hp'.skip T1 (h.seen_put hd h512 hi hib hoi hok v hj hs) hw s hds
   ·obtain ⟨u, h1, h2⟩ := hp'.quiet T1 (h.seen_put hd h512 hi hib hoi hok v hj hs) hw r f hf
    refine ⟨u, ?_, fun s hds => by rw [keepS j hj s hds]; exact h2 s hds⟩
    rcases hm with rfl | ⟨ob, rfl, hfr⟩
    ·exact h1
    ·rw [hf] at hokj
     exact hokj.2.2.2 T1 m ob u hfr h1
   ·obtain ⟨nx, u, ob, h1, h2, h3, h4⟩ := hp'.alloc T1 (h.seen_put hd h512 hi hib hoi hok v hj hs) hw f hf
    refine ⟨nx, u, ob, ?_, h2, fun s hds => by rw [keepS j hj s hds]; exact h3 s hds, ?_⟩
    ·rw [if_neg (hne j hj)]; exact h1
    ·rcases hm with rfl | ⟨ob', rfl, hfr⟩
     ·exact h4
     ·exact zDH hfr h4 ob'
  ·rw [List.mem_singleton.1 hj]; exact hp
 ·rcases List.mem_append.1 hj with hj | hj
  ·simp only [if_neg (hne j hj)] at hN
   obtain ⟨h1, h2, h3⟩ := h.fr j nx hj hl hN
   exact ⟨h1, h2, by omega⟩
  ·rw [List.mem_singleton.1 hj] at hN
   simp only [if_true] at hN
   rcases hx with rfl | ⟨rfl, h1⟩
   ·cases hN
   ·cases hN
    refine ⟨?_, h.at'.ext.next, by omega⟩
    cases e : ρ m.next with
    | none => rfl
    | some b => have := (h.at'.mr.lt _ _ e).1; omega
 ·have hx' : ∀ nx, x = some nx → nx = m.next := by
   rintro nx rfl
   rcases hx with h1 | ⟨h1, _⟩
   ·cases h1
   ·cases h1; rfl
  rcases List.mem_append.1 hj with hj | hj <;> rcases List.mem_append.1 hc with hc | hc
  ·simp only [if_neg (hne j hj)] at hNj
   simp only [if_neg (hne c hc)] at hNc
   exact h.nj j c nx hj hc hlj hlc hNj hNc
  ·simp only [if_neg (hne j hj)] at hNj
   rw [List.mem_singleton.1 hc] at hNc
   simp only [if_true] at hNc
   have := (h.fr j nx hj hlj hNj).2.2
   have := hx' nx hNc
   omega
  ·simp only [if_neg (hne c hc)] at hNc
   rw [List.mem_singleton.1 hj] at hNj
   simp only [if_true] at hNj
   have := (h.fr c nx hc hlc hNc).2.2
   have := hx' nx hNj
   omega
  ·rw [List.mem_singleton.1 hj, List.mem_singleton.1 hc]
end
end Go.AM
