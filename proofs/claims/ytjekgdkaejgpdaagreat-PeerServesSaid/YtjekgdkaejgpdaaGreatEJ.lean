/- Readers of texts by what they answer. No condition. -/
import Derived.Test.YtjekgdkaejgpdaaGreatEW
namespace Go.Proofs.YtjekgdkaejgpdaaGreat
open Go Go.AM
set_option maxRecDepth 100000
set_option maxHeartbeats 4000000
set_option linter.unusedVariables false
set_option linter.unusedSectionVars false
theorem zCv {n : Nat} (h : n ≤ 1000000) : n < rounds - 1 := by
 have : rounds = 1099511627776 := rfl
 omega
theorem foldl_beN (l : List Nat) : ∀ n, l.foldl (fun n b => n * 256 + b) n = n * 256 ^ l.length + beN l := by
 unfold beN
 induction l with
 | nil => intro n; simp
 | cons b l ih =>
  intro n
  rw [List.foldl_cons, List.foldl_cons, ih (n * 256 + b), ih (0 * 256 + b), List.length_cons, Nat.pow_succ, Nat.add_mul, Nat.mul_assoc, Nat.mul_comm 256, Nat.zero_mul, Nat.zero_add]
  omega
theorem beN_snoc (l : List Nat) (b : Nat) : beN (l ++ [b]) = beN l * 256 + b := by unfold beN; rw [List.foldl_append]; rfl
theorem beN_lt : ∀ (l : List Nat), (∀ b ∈ l, b < 256) → beN l < 256 ^ l.length
 | [], _ => by decide
 | b :: l, h => by
  have h1 := h b (List.mem_cons_self ..)
  have h2 := beN_lt l fun c hc => h c (List.mem_cons_of_mem _ hc)
  have e : beN (b :: l) = b * 256 ^ l.length + beN l := by
   show (b :: l).foldl _ 0 = _
   rw [List.foldl_cons, foldl_beN, Nat.zero_mul, Nat.zero_add]
  rw [e, List.length_cons, Nat.pow_succ]
  have h3 : b * 256 ^ l.length ≤ 255 * 256 ^ l.length := Nat.mul_le_mul_right _ (by omega)
  omega
theorem pow_le256 {j k : Nat} (h : j ≤ k) : 256 ^ j ≤ 256 ^ k := Nat.pow_le_pow_right (by decide) h
theorem zGD {s : List Nat} (hs : ∀ b ∈ s, b < 256) (i k : Nat) : bat s i k < 256 ^ k := by
 refine Nat.lt_of_lt_of_le (beN_lt _ fun b hb => hs b (List.drop_subset _ _ (List.take_subset _ _ hb))) (pow_le256 ?_)
 rw [List.length_take]; omega
theorem take_snoc {s : List Nat} {i : Nat} (h : i < s.length) : s.take (i + 1) = s.take i ++ [s[i]] := by rw [List.take_add_one, List.getElem?_eq_getElem h]; rfl
theorem zFc {s : List Nat} {i k : Nat} (h : i + k ≤ s.length) : zAp s i (i + k) = some (.str ((s.drop i).take k)) := by
 unfold zAp
 rw [show (Nat.ble i (i + k) && Nat.ble (i + k) s.length) = true by simp only [Bool.and_eq_true]; exact ⟨zAA.2 (by omega), zAA.2 h⟩, cond_true]
 congr 2
 rw [List.drop_take]; congr 1; omega
theorem slc_len {s : List Nat} {i k : Nat} (h : i + k ≤ s.length) : ((s.drop i).take k).length = k := by rw [List.length_take, List.length_drop]; omega
theorem slc0 {s : List Nat} {k : Nat} (h : k ≤ s.length) : zAp s 0 k = some (.str (s.take k)) := by
 have := zFc (s := s) (i := 0) (k := k) (by omega)
 rwa [Nat.zero_add] at this
open Classical in
noncomputable def numR : List V → Option V
 | [.str s] => if s.length ≤ 8 ∧ ∀ b ∈ s, b < 256 then some (.int .u64 ((beN s : Nat) : Int)) else none
 | _ => none
open Classical in
noncomputable def rdR (k : Nat) (kd : IntKind) : List V → Option V
 | [.str s, .int .i64 i] => if 0 ≤ i ∧ i ≤ 1000 ∧ i.toNat + k ≤ s.length ∧ ∀ b ∈ s, b < 256 then some (.int kd ((bat s i.toNat k : Nat) : Int)) else none
 | _ => none
theorem zHe {k : Nat} {kd : IntKind} {s : List Nat} {i : Nat} (h1 : i ≤ 1000) (h2 : i + k ≤ s.length) (h3 : ∀ b ∈ s, b < 256) : rdR k kd [.str s, .int .i64 ((i : Nat) : Int)] = some (.int kd ((bat s i k : Nat) : Int)) := if_pos ⟨by omega, by omega, by simpa using h2, h3⟩
def rbV (s : List Nat) (a k : Nat) : V := if a + k ≤ s.length then .tuple [.int .u64 ((bat s a k : Nat) : Int), .bool true] else .tuple [.int .u64 0, .bool false]
open Classical in
noncomputable def rbR : List V → Option V
 | [.str s, .int .i64 a, .int .i64 k] => if 0 ≤ a ∧ a ≤ 1000 ∧ 1 ≤ k ∧ k ≤ 8 ∧ s.length ≤ 1099511627776 ∧ ∀ b ∈ s, b < 256 then some (rbV s a.toNat k.toNat) else none
 | _ => none
theorem rbR_y {s : List Nat} {a k : Nat} (h1 : a ≤ 1000) (h2 : 1 ≤ k) (h3 : k ≤ 8) (h4 : s.length ≤ 1099511627776) (h5 : ∀ b ∈ s, b < 256) : rbR [.str s, .int .i64 ((a : Nat) : Int), .int .i64 ((k : Nat) : Int)] = some (rbV s a k) := if_pos ⟨by omega, by omega, by omega, by omega, h4, h5⟩
def begB (s w : List Nat) : Bool := zFn (w.take (min s.length w.length)) (s.take (min s.length w.length))
open Classical in
noncomputable def bgR : List V → Option V
 | [.str s, .str w] => if s.length ≤ 1099511627776 ∧ w.length ≤ 1000 then some (.bool (begB s w)) else none
 | _ => none
theorem bgR_y {s w : List Nat} (h : s.length ≤ 1099511627776) (h2 : w.length ≤ 1000) : bgR [.str s, .str w] = some (.bool (begB s w)) := if_pos ⟨h, h2⟩
def boV (s : List Nat) (h m : Nat) : V :=
 if s.length < h then .tuple [.str [], .int .i64 0, .int .i64 0]
 else if m < bat s (h - 4) 4 then .tuple [.str [], .int .i64 0, .int .i64 1]
 else if s.length - h < bat s (h - 4) 4 then .tuple [.str [], .int .i64 0, .int .i64 0]
 else .tuple [.str ((s.drop h).take (bat s (h - 4) 4)), .int .i64 ((h + bat s (h - 4) 4 : Nat) : Int), .int .i64 0]
open Classical in
noncomputable def boR : List V → Option V
 | [.str s, .int .i64 h, .int .i64 m] => if 4 ≤ h ∧ h ≤ 1000 ∧ 0 ≤ m ∧ m ≤ 1000000 ∧ s.length ≤ 1099511627776 ∧ ∀ b ∈ s, b < 256 then some (boV s h.toNat m.toNat) else none
 | _ => none
theorem boR_y {s : List Nat} {h m : Nat} (h1 : 4 ≤ h) (h2 : h ≤ 1000) (h3 : m ≤ 1000000) (h4 : s.length ≤ 1099511627776) (h5 : ∀ b ∈ s, b < 256) : boR [.str s, .int .i64 ((h : Nat) : Int), .int .i64 ((m : Nat) : Int)] = some (boV s h m) := if_pos ⟨by omega, by omega, by omega, by omega, h4, h5⟩
def nrT (e k : Nat) (d : List Nat) (n er : Nat) : V := .tuple [.agg [.int .u32 ((e : Nat) : Int), .int .u64 ((k : Nat) : Int), .str d], .int .i64 ((n : Nat) : Int), .int .i64 ((er : Nat) : Int)]
def rmg : List Nat := [103, 68, 102, 152]
def cmg : List Nat := [102, 142, 51, 239]
def nrV (s : List Nat) (d : Nat) : V :=
 if begB s rmg = false then nrT 0 0 [] 0 8
 else if s.length < 16 then nrT 0 0 [] 0 0
 else if bat s 4 4 = 0 ∧ 0 < d then if s.length - 16 < d then nrT 0 0 [] 0 0 else nrT (bat s 4 4) (bat s 8 8) ((s.drop 16).take d) (16 + d) 0
 else nrT (bat s 4 4) (bat s 8 8) [] 16 0
open Classical in
noncomputable def nrR : List V → Option V
 | [.str s, .int .i64 d] => if 0 ≤ d ∧ d ≤ 4294967296 ∧ s.length ≤ 1099511627776 ∧ ∀ b ∈ s, b < 256 then some (nrV s d.toNat) else none
 | _ => none
theorem nrR_y {s : List Nat} {d : Nat} (h1 : d ≤ 4294967296) (h4 : s.length ≤ 1099511627776) (h5 : ∀ b ∈ s, b < 256) : nrR [.str s, .int .i64 ((d : Nat) : Int)] = some (nrV s d) := if_pos ⟨by omega, by omega, h4, h5⟩
def ncT (fg kd ck : Nat) (d : List Nat) (n er : Nat) : V := .tuple [.agg [.int .u16 ((fg : Nat) : Int), .int .u16 ((kd : Nat) : Int), .int .u64 ((ck : Nat) : Int), .str d], .int .i64 ((n : Nat) : Int), .int .i64 ((er : Nat) : Int)]
def ncV (s : List Nat) (m : Nat) : V :=
 if begB s cmg = false then ncT 0 0 0 [] 0 8
 else if s.length < 20 then ncT 0 0 0 [] 0 0
 else if m < bat s 16 4 then ncT 0 0 0 [] 0 1
 else if s.length - 20 < bat s 16 4 then ncT 0 0 0 [] 0 0
 else ncT (bat s 4 2) (bat s 6 2) (bat s 8 8) ((s.drop 20).take (bat s 16 4)) (20 + bat s 16 4) 0
open Classical in
noncomputable def ncR : List V → Option V
 | [.str s, .int .i64 m] => if 0 ≤ m ∧ m ≤ 1000000 ∧ s.length ≤ 1099511627776 ∧ ∀ b ∈ s, b < 256 then some (ncV s m.toNat) else none
 | _ => none
theorem ncR_y {s : List Nat} {m : Nat} (h1 : m ≤ 1000000) (h4 : s.length ≤ 1099511627776) (h5 : ∀ b ∈ s, b < 256) : ncR [.str s, .int .i64 ((m : Nat) : Int)] = some (ncV s m) := if_pos ⟨by omega, by omega, h4, h5⟩
abbrev lb2 : CF Prop := zAi 85 bgR (zAi 87 (rdR 4 .u32) (zAi 92 (rdR 8 .u64) la0))
abbrev lb3 : CF Prop := zAi 87 (rdR 4 .u32) la0
abbrev lb4 : CF Prop := zAi 85 bgR (zAi 86 boR (zAi 92 (rdR 8 .u64) (zAi 108 (rdR 2 .u16) la0)))
abbrev lb5 : CF Prop := zAi 60 rbR (zAi 62 nrR (zAi 90 ncR la0))
theorem nth_nat {s : List Nat} {i : Nat} (h : i < s.length) : nth s i = some s[i] := by rw [nth_eq, List.getElem?_eq_getElem h]
theorem lt57 {l : List Nat} {i : Nat} (h : ∀ b ∈ l, b < 256) (hi : i < l.length) (h8 : l.length ≤ 8) : beN (l.take i) < 72057594037927936 := by
 refine Nat.lt_of_lt_of_le (beN_lt _ fun b hb => h b (List.take_subset _ _ hb)) ?_
 have : 256 ^ (l.take i).length ≤ 256 ^ 7 := pow_le256 (by rw [List.length_take]; omega)
 exact this
theorem take_all (s : List Nat) : s.take s.length = s := List.take_length
theorem zIy : ∀ {t : List Nat} {i : Nat} (h : i < t.length), nth (zCL t) i = some (.int .u8 ((t[i] : Nat) : Int))
 | _ :: _, 0, _ => rfl
 | _ :: t, i + 1, h => zIy (t := t) (i := i) (Nat.lt_of_succ_lt_succ h)
section
variable {P : Program}
theorem zBl : zAv P la0 id := fun _ _ _ _ _ _ _ _ _ _ _ _ _ h => h.elim
theorem zEX : zDx P tb0 := fun _ _ h => nomatch h
theorem tb39_ok (o54 : FOk P 88 c88) (o55 : FOk P 89 c89) : zDx P tb39 := by
 intro f af h
 simp only [tb39] at h
 by_cases e : f = 88
 ·subst e; cases h; exact o54
 ·rw [zAS e, cond_false] at h
  by_cases e : f = 89
  ·subst e; cases h; exact o55
  ·rw [zAS e, cond_false] at h; cases h
theorem tb51_ok (o28 : FOk P 48 c48) (o46 : FOk P 76 c76) : zDx P tb51 := by
 intro f af h
 simp only [tb51] at h
 by_cases e : f = 48
 ·subst e; cases h; exact o28
 ·rw [zAS e, cond_false] at h
  by_cases e : f = 76
  ·subst e; cases h; exact o46
  ·rw [zAS e, cond_false] at h; cases h
variable (hmix : P.follows .mixedOrders = true)
include hmix
theorem r62_ok (o62 : FOk P 107 c107) {la : CF Prop} (hla : zAv P la id) : zAv P (zAi 107 numR la) id := zA9 (zAx o62) (fun ρ args args' v hv ha => by
 unfold numR at hv; split at hv
 ·split at hv
  ·rename_i s hh
   obtain ⟨h8, hs⟩ := hh
   cases hv
   refine zAy hmix o62 (zAn zAX hmix zEX zBl 5) ha rfl rfl (fun K hK => nu_w _ s h8 (beN s) ?_ K hK)
   have h := loop2 (cfy := zAt pA tb0 la0 5) (b := c107l0) (x := 0) (M1 := zCc 0 []) (l1 := [(s0, .str s), (s3, .int .u64 ((beN s : Nat) : Int)), (s6, .int .i64 ((s.length : Nat) : Int)), (s7, .int .i64 ((s.length : Nat) : Int))]) s.length (Nat.lt_of_lt_of_le (zCv (by omega)) (Nat.sub_le _ _)) (fun _ => zCc 0 [])
    (fun i => [(s0, .str s), (s3, .int .u64 ((beN (s.take i) : Nat) : Int)), (s6, .int .i64 ((s.length : Nat) : Int)), (s7, .int .i64 ((i : Nat) : Int))])
    (fun Y i T hi hT K hK => by
     refine nu_s Y s s.length i (beN (s.take i)) s[i] h8 hi (lt57 hs hi h8) (hs _ (List.getElem_mem hi)) (nth_nat hi) T hT K ?_
     intro T' hT'
     refine hK T' ?_
     rw [take_snoc hi, beN_snoc]; exact hT')
    (fun Y T hT K hK => by
     rw [take_all] at hT
     exact nu_e Y s s.length (beN s) h8 T hT K hK)
   exact h
  ·cases hv
 ·cases hv) hla
theorem rd_ok {n k : Nat} {kd : IntKind} {af : zAr} (o : FOk P n af) (o62 : FOk P 107 c107) (k8 : k ≤ 8)
  (hw : ∀ (Y : Ys Prop) (R : List V → Option V) (s t : List Nat) (i v : Nat), i ≤ 1000 → v < 256 ^ k → zAp s i (i + k) = some (.str t) → R [.str t] = some (.int .u64 ((v : Nat) : Int)) → ∀ (K : V → Mem → Prop), (∀ mm, K (.int kd ((v : Nat) : Int)) mm) → zAD pA (zAt pA tb0 (zAi 107 R la0) 5) Y af [.str s, .int .i64 ((i : Nat) : Int)] ⟨0, .leaf⟩ K)
  {la : CF Prop} (hla : zAv P la id) : zAv P (zAi n (rdR k kd) la) id := zA9 (zAx o) (fun ρ args args' v hv ha => by
 unfold rdR at hv; split at hv
 ·split at hv
  ·rename_i s i hh
   obtain ⟨h1, h2, h3, hs⟩ := hh
   cases hv
   obtain ⟨j, rfl⟩ := Int.eq_ofNat_of_zero_le h1
   have h3 : j + k ≤ s.length := h3
   refine zAy hmix o (zAn zAX hmix zEX (r62_ok hmix o62 zBl) 5) ha rfl rfl (fun K hK => hw _ numR s _ j (bat s j k) (by omega) (zGD hs _ _) (zFc h3) (if_pos ⟨by rw [slc_len h3]; exact k8, fun b hb => hs b (List.drop_subset _ _ (List.take_subset _ _ hb))⟩) K hK)
  ·cases hv
 ·cases hv) hla
theorem r63_ok (o62 : FOk P 107 c107) (o : FOk P 108 c108) {la : CF Prop} (hla : zAv P la id) : zAv P (zAi 108 (rdR 2 .u16) la) id := rd_ok hmix o o62 (by decide) (fun Y R s t i v h1 h2 h3 h4 K hK => nu_two Y R s t i v h1 h2 h3 h4 K hK) hla
theorem r53_ok (o62 : FOk P 107 c107) (o : FOk P 87 c87) {la : CF Prop} (hla : zAv P la id) : zAv P (zAi 87 (rdR 4 .u32) la) id := rd_ok hmix o o62 (by decide) (fun Y R s t i v h1 h2 h3 h4 K hK => nu_four Y R s t i v h1 h2 h3 h4 K hK) hla
theorem r58_ok (o62 : FOk P 107 c107) (o : FOk P 92 c92) {la : CF Prop} (hla : zAv P la id) : zAv P (zAi 92 (rdR 8 .u64) la) id := rd_ok hmix o o62 (by decide) (fun Y R s t i v h1 h2 h3 h4 K hK => nu_eight Y R s t i v h1 h2 h3 h4 K hK) hla
theorem r39_ok (o54 : FOk P 88 c88) (o55 : FOk P 89 c89) (o39 : FOk P 60 c60) {la : CF Prop} (hla : zAv P la id) : zAv P (zAi 60 rbR la) id := zA9 (zAx o39) (fun ρ args args' v hv ha => by
 unfold rbR at hv; split at hv
 ·split at hv
  ·rename_i s a k hh
   obtain ⟨h1, h2, h3, h4, h5, hs⟩ := hh
   cases hv
   obtain ⟨a, rfl⟩ := Int.eq_ofNat_of_zero_le h1
   obtain ⟨k, rfl⟩ := Int.eq_ofNat_of_zero_le (show 0 ≤ k by omega)
   have hv2 : (rbV s (Int.ofNat a).toNat (Int.ofNat k).toNat).plain = true := by unfold rbV; split <;> rfl
   refine zAy hmix o39 (zAn zAX hmix (tb39_ok o54 o55) zBl 5) ha rfl hv2 (fun K hK => ?_)
   have hK : ∀ m, K (rbV s a k) m := hK
   unfold rbV at hK
   by_cases hl : a + k ≤ s.length
   ·rw [if_pos hl] at hK
    have tl := slc_len hl
    have ts : ∀ b ∈ (s.drop a).take k, b < 256 := fun b hb => hs b (List.drop_subset _ _ (List.take_subset _ _ hb))
    refine rb_y _ s ((s.drop a).take k) a k (bat s a k) (by omega) (by omega) (by omega) hl h5 (zFc hl) ?_ K hK
    show zDc _ _ _ _ _ _ [(s0, _), (s3, .int .u64 ((beN ((s.drop a).take k) : Nat) : Int)), _, _]
    generalize (s.drop a).take k = t at tl ts
    have h8 : t.length ≤ 8 := by omega
    exact loop2 (cfy := zAt pA tb39 la0 4) (b := c89l0) (x := 0) (M1 := zCc 1 [(0, .cells (zCL t) false)]) (l1 := [(s0, .slice 0 0 t.length t.length 1), (s3, .int .u64 ((beN t : Nat) : Int)), (s6, .int .i64 ((t.length : Nat) : Int)), (s7, .int .i64 ((t.length : Nat) : Int))]) t.length (Nat.lt_of_lt_of_le (zCv (by omega)) (Nat.sub_le _ _)) (fun _ => zCc 1 [(0, .cells (zCL t) false)])
     (fun i => [(s0, .slice 0 0 t.length t.length 1), (s3, .int .u64 ((beN (t.take i) : Nat) : Int)), (s6, .int .i64 ((t.length : Nat) : Int)), (s7, .int .i64 ((i : Nat) : Int))])
     (fun Y i T hi hT K hK => by
      refine va_s Y (zCL t) t.length i (beN (t.take i)) t[i] h8 hi (lt57 ts hi h8) (ts _ (List.getElem_mem hi)) (zIy hi) T hT K ?_
      intro T' hT'
      refine hK T' ?_
      rw [take_snoc hi, beN_snoc]; exact hT')
     (fun Y T hT K hK => by
      rw [take_all] at hT
      exact va_e Y (zCL t) t.length (beN t) h8 T hT K hK)
   ·rw [if_neg hl] at hK
    exact rb_n _ s a k (by omega) (by omega) (by omega) (by omega) h5 K hK
  ·cases hv
 ·cases hv) hla
theorem r51_ok (o28 : FOk P 48 c48) (o46 : FOk P 76 c76) (o51 : FOk P 85 c85) {la : CF Prop} (hla : zAv P la id) : zAv P (zAi 85 bgR la) id := zA9 (zAx o51) (fun ρ args args' v hv ha => by
 unfold bgR at hv; split at hv
 ·split at hv
  ·rename_i s w hh
   obtain ⟨h1, h2⟩ := hh
   cases hv
   refine zAy hmix o51 (zAn zAX hmix (tb51_ok o28 o46) zBl 5) ha rfl rfl (fun K hK => ?_)
   unfold begB at hK
   by_cases hl : s.length ≤ w.length
   ·rw [Nat.min_eq_left hl] at hK
    exact bg_a _ s w _ _ hl h1 h2 (slc0 (Nat.le_refl _)) (by rw [List.length_take, Nat.min_self]) (slc0 hl) K hK
   ·rw [Nat.min_eq_right (by omega)] at hK
    exact bg_b _ s w _ _ (by omega) h1 h2 (slc0 (by omega)) (by rw [List.length_take]; omega) (slc0 (Nat.le_refl _)) K hK
  ·cases hv
 ·cases hv) hla
theorem r52_ok (h3 : zAv P lb3 id) (o52 : FOk P 86 c86) {la : CF Prop} (hla : zAv P la id) : zAv P (zAi 86 boR la) id := zA9 (zAx o52) (fun ρ args args' v hv ha => by
 unfold boR at hv; split at hv
 ·split at hv
  ·rename_i s h m hh
   obtain ⟨h1, h2, h4, h5, h6, hs⟩ := hh
   cases hv
   obtain ⟨h, rfl⟩ := Int.eq_ofNat_of_zero_le (show 0 ≤ h by omega)
   obtain ⟨m, rfl⟩ := Int.eq_ofNat_of_zero_le h4
   have hv2 : (boV s (Int.ofNat h).toNat (Int.ofNat m).toNat).plain = true := by unfold boV; split; rfl; split; rfl; split <;> rfl
   refine zAy hmix o52 (zAn zAX hmix zEX h3 5) ha rfl hv2 (fun K hK => ?_)
   have hK : ∀ mm, K (boV s h m) mm := hK
   unfold boV at hK
   by_cases e1 : s.length < h
   ·rw [if_pos e1] at hK
    exact bo_0 _ _ s h m (by omega) (by omega) (by omega) h6 e1 K hK
   rw [if_neg e1] at hK
   have hr : rdR 4 .u32 [.str s, .int .i64 (((h : Nat) : Int) - 4)] = some (.int .u32 ((bat s (h - 4) 4 : Nat) : Int)) := by
    rw [show ((h : Nat) : Int) - 4 = ((h - 4 : Nat) : Int) by omega]
    exact zHe (by omega) (by omega) hs
   have hb := zGD hs (h - 4) 4
   by_cases e2 : m < bat s (h - 4) 4
   ·rw [if_pos e2] at hK
    exact bo_1 _ _ s h m (by omega) (by omega) (by omega) h6 (by omega) _ hb hr e2 K hK
   rw [if_neg e2] at hK
   by_cases e3 : s.length - h < bat s (h - 4) 4
   ·rw [if_pos e3] at hK
    exact bo_2 _ _ s h m (by omega) (by omega) (by omega) h6 (by omega) _ hb hr (by omega) e3 K hK
   rw [if_neg e3] at hK
   exact bo_3 _ _ s h m (by omega) (by omega) (by omega) h6 (by omega) _ hb hr (by omega) (by omega) _ (zFc (by omega)) K hK
  ·cases hv
 ·cases hv) hla
theorem r41_ok (h2 : zAv P lb2 id) (o41 : FOk P 62 c62) {la : CF Prop} (hla : zAv P la id) : zAv P (zAi 62 nrR la) id := zA9 (zAx o41) (fun ρ args args' v hv ha => by
 unfold nrR at hv; split at hv
 ·split at hv
  ·rename_i s d hh
   obtain ⟨h1, h3, h4, hs⟩ := hh
   cases hv
   obtain ⟨d, rfl⟩ := Int.eq_ofNat_of_zero_le h1
   have hv2 : (nrV s (Int.ofNat d).toNat).plain = true := by
    unfold nrV; split; rfl; split; rfl; split; split; rfl; rfl; rfl
   refine zAy hmix o41 (zAn zAX hmix zEX h2 5) ha rfl hv2 (fun K hK => ?_)
   have hK : ∀ mm, K (nrV s d) mm := hK
   have hd : d ≤ 4294967296 := by omega
   unfold nrV at hK
   have hbg := bgR_y (s := s) (w := rmg) h4 (by decide)
   by_cases e1 : begB s rmg = false
   ·rw [if_pos e1] at hK; rw [e1] at hbg
    exact nr_f _ _ _ _ s h4 d hd hbg K hK
   rw [if_neg e1] at hK
   have e1 : begB s rmg = true := by simpa using e1
   rw [e1] at hbg
   by_cases e2 : s.length < 16
   ·rw [if_pos e2] at hK
    exact nr_0 _ _ _ _ s h4 d hd hbg e2 K hK
   rw [if_neg e2] at hK
   have hF := zHe (k := 4) (kd := .u32) (s := s) (i := 4) (by omega) (by omega) hs
   have hG := zHe (k := 8) (kd := .u64) (s := s) (i := 8) (by omega) (by omega) hs
   have hb := zGD hs 4 4
   by_cases e3 : 0 < bat s 4 4
   ·rw [if_neg (by omega)] at hK
    exact nr_1 _ _ _ _ s h4 d hd hbg (by omega) _ _ hb hF hG e3 K hK
   by_cases e4 : d = 0
   ·rw [if_neg (by omega)] at hK
    exact nr_2 _ _ _ _ s h4 d hd hbg (by omega) _ _ hb hF hG (by omega) e4 K hK
   rw [if_pos ⟨by omega, by omega⟩] at hK
   by_cases e5 : s.length - 16 < d
   ·rw [if_pos e5] at hK
    exact nr_3 _ _ _ _ s h4 d hd hbg (by omega) _ _ hb hF hG (by omega) (by omega) e5 K hK
   rw [if_neg e5] at hK
   exact nr_4 _ _ _ _ s h4 d hd hbg (by omega) _ _ hb hF hG (by omega) (by omega) (by omega) _ (zFc (by omega)) K hK
  ·cases hv
 ·cases hv) hla
theorem r56_ok (h4 : zAv P lb4 id) (o56 : FOk P 90 c90) {la : CF Prop} (hla : zAv P la id) : zAv P (zAi 90 ncR la) id := zA9 (zAx o56) (fun ρ args args' v hv ha => by
 unfold ncR at hv; split at hv
 ·split at hv
  ·rename_i s m hh
   obtain ⟨h1, h3, hl, hs⟩ := hh
   cases hv
   obtain ⟨m, rfl⟩ := Int.eq_ofNat_of_zero_le h1
   have hv2 : (ncV s (Int.ofNat m).toNat).plain = true := by
    unfold ncV; split; rfl; split; rfl; split; rfl; split; rfl; rfl
   refine zAy hmix o56 (zAn zAX hmix zEX h4 5) ha rfl hv2 (fun K hK => ?_)
   have hK : ∀ mm, K (ncV s m) mm := hK
   have hm : m ≤ 1000000 := by omega
   unfold ncV at hK
   have hbg := bgR_y (s := s) (w := cmg) hl (by decide)
   by_cases e1 : begB s cmg = false
   ·rw [if_pos e1] at hK; rw [e1] at hbg
    exact nc_f _ _ _ _ _ s hl m hm hbg K hK
   rw [if_neg e1] at hK
   have e1 : begB s cmg = true := by simpa using e1
   rw [e1] at hbg
   have hB := boR_y (s := s) (h := 20) (m := m) (by omega) (by omega) hm hl hs
   unfold boV at hB
   by_cases e2 : s.length < 20
   ·rw [if_pos e2] at hK hB
    exact nc_0 _ _ _ _ _ s hl m hm 0 hbg hB K hK
   rw [if_neg e2] at hK hB
   have hB : boR [.str s, .int .i64 20, .int .i64 ((m : Nat) : Int)] = _ := hB
   by_cases e3 : m < bat s 16 4
   ·rw [if_pos e3] at hK
    rw [if_pos (show m < bat s (20 - 4) 4 from e3)] at hB
    exact nc_0 _ _ _ _ _ s hl m hm 1 hbg hB K hK
   rw [if_neg e3] at hK
   rw [if_neg (show ¬ m < bat s (20 - 4) 4 from e3)] at hB
   by_cases e4 : s.length - 20 < bat s 16 4
   ·rw [if_pos e4] at hK
    rw [if_pos (show s.length - 20 < bat s (20 - 4) 4 from e4)] at hB
    exact nc_0 _ _ _ _ _ s hl m hm 0 hbg hB K hK
   rw [if_neg e4] at hK
   rw [if_neg (show ¬ s.length - 20 < bat s (20 - 4) 4 from e4)] at hB
   have hb := zGD hs 16 4
   exact nc_1 _ _ _ _ _ s hl m hm _ (20 + bat s 16 4) (bat s 4 2) (bat s 6 2) (bat s 8 8) (by omega) (by omega) hbg hB (zHe (i := 4) (by omega) (by omega) hs) (zHe (i := 6) (by omega) (by omega) hs) (zHe (i := 8) (by omega) (by omega) hs) K hK
  ·cases hv
 ·cases hv) hla
theorem lb5_ok (o62 : FOk P 107 c107) (o63 : FOk P 108 c108) (o53 : FOk P 87 c87) (o58 : FOk P 92 c92) (o54 : FOk P 88 c88) (o55 : FOk P 89 c89) (o39 : FOk P 60 c60) (o28 : FOk P 48 c48) (o46 : FOk P 76 c76) (o51 : FOk P 85 c85) (o52 : FOk P 86 c86) (o41 : FOk P 62 c62) (o56 : FOk P 90 c90) : zAv P lb5 id :=
 have h3 : zAv P lb3 id := r53_ok hmix o62 o53 zBl
 have h2 : zAv P lb2 id := r51_ok hmix o28 o46 o51 (r53_ok hmix o62 o53 (r58_ok hmix o62 o58 zBl))
 have h4 : zAv P lb4 id := r51_ok hmix o28 o46 o51 (r52_ok hmix h3 o52 (r58_ok hmix o62 o58 (r63_ok hmix o62 o63 zBl)))
 r39_ok hmix o54 o55 o39 (r41_ok hmix h2 o41 (r56_ok hmix h4 o56 zBl))
end
end Go.Proofs.YtjekgdkaejgpdaaGreat
