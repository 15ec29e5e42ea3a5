/- Requests of the law. No condition. -/
import Derived.Test.YtjekgdkaejgpdaaGreatGW
import Derived.Test.YtjekgdkaejgpdaaGreatAMR
namespace Go.Proofs.YtjekgdkaejgpdaaGreat
open Go Go.AM
set_option maxRecDepth 100000
set_option maxHeartbeats 4000000
set_option linter.unusedVariables false
set_option linter.unusedSectionVars false
def kdR : List V → Option V
 | [.int .u16 0] => some (.int .u8 1)
 | [.int .u16 1] => some (.int .u8 2)
 | [.int .u16 3] => some (.int .u8 3)
 | [.int .u16 6] => some (.int .u8 4)
 | [.int .u16 9] => some (.int .u8 0)
 | _ => none
def rrR : List V → Option V
 | [.str s, .int .i64 (.ofNat c)] => bif Nat.ble (s.length * c) 140737488355328 && Nat.ble c 9223372036854775807 then some (.str (Go.AM.repL s c)) else none
 | _ => none
theorem rrR_y {s : List Nat} {c : Nat} (h1 : s.length ≤ 1) (h2 : c ≤ 1000000) : rrR [.str s, .int .i64 ((c : Nat) : Int)] = some (.str (Go.AM.repL s c)) := by
 have h3 : s.length * c ≤ 1 * c := Nat.mul_le_mul_right c h1
 show (bif Nat.ble _ _ && Nat.ble _ _ then _ else _) = _
 rw [zAA.2 (by omega), zAA.2 (by omega)]
 rfl
theorem zFx (b : Nat) : ∀ c, (Go.AM.repL [b] c).length = c
 | 0 => rfl
 | c + 1 => by show (b :: Go.AM.repL [b] c).length = _; rw [List.length_cons, zFx b c]
theorem zGQ {b : Nat} (h : b < 256) : ∀ c, ∀ x ∈ Go.AM.repL [b] c, x < 256
 | 0, x, hx => by cases hx
 | c + 1, x, hx => by
  rcases List.mem_cons.1 (show x ∈ b :: Go.AM.repL [b] c from hx) with rfl | hx
  ·exact h
  ·exact zGQ h c x hx
def rqT (n : Nat) : Nat := if n % 8 = 1 ∨ n % 8 = 5 then 1 else if n % 8 = 3 then 6 else if n % 8 = 4 then 3 else if n % 8 = 7 then 9 else 0
def rqO (n : Nat) : Nat := if n % 97 = 0 then 1 else if n % 8 = 4 then 0 else 64 * (n / 8 % 15)
def rqN (n : Nat) : Nat := if n % 8 = 4 then 0 else 64 * (1 + n / 128 % 2)
def rqD (n : Nat) : List Nat := if n % 8 = 1 ∨ n % 8 = 5 then Go.AM.repL [97 + n % 26] (64 * (1 + n / 128 % 2)) else []
def rqV (n : Nat) : V := .agg [.int .u16 0, .int .u16 ((rqT n : Nat) : Int), .int .u64 0, .int .u64 ((rqO n : Nat) : Int), .int .u32 ((rqN n : Nat) : Int), .str (rqD n)]
open Classical in
noncomputable def rq0 : List V → Option V
 | [.int .u16 n] => if 0 ≤ n ∧ n < 65536 then some (rqV n.toNat) else none
 | _ => none
theorem rqS_ex : ∃ R : List V → Option V, R = rq0 := ⟨_, rfl⟩
noncomputable def rqS : List V → Option V := Classical.choose rqS_ex
theorem rqS_eq : rqS = rq0 := Classical.choose_spec rqS_ex
theorem rqS_y {n : Nat} (h : n < 65536) : rqS [.int .u16 ((n : Nat) : Int)] = some (rqV n) := by
 rw [rqS_eq]
 unfold rq0
 dsimp only
 rw [if_pos ⟨by omega, by omega⟩, Int.toNat_natCast]
def RgtOk (e t of ln dl : Nat) : Prop := t < 65536 ∧ of ≤ 2000 ∧ ln ≤ 2000 ∧ dl ≤ 2000 ∧ e < 4294967296 ∧
 ((e = 22 ∧ dl = 0 ∧ (t = 9 ∨ of = 1)) ∨ (e = 0 ∧ t ≠ 9 ∧ 64 * (of / 64) = of ∧ (t = 3 → of = 0) ∧ dl = (if t = 0 then ln else 0)))
open Classical in
noncomputable def rg0 : List V → Option V
 | [.agg [.int .u32 e, .int .u64 ck, .str d], .agg [.int .u16 f, .int .u16 t, .int .u64 z, .int .u64 of, .int .u32 ln, .str dd]] => if 0 ≤ e ∧ 0 ≤ ck ∧ f = 0 ∧ 0 ≤ t ∧ z = 0 ∧ 0 ≤ of ∧ 0 ≤ ln ∧ RgtOk e.toNat t.toNat of.toNat ln.toNat d.length then some (.bool true) else none
 | _ => none
theorem rgS_ex : ∃ R : List V → Option V, R = rg0 := ⟨_, rfl⟩
noncomputable def rgS : List V → Option V := Classical.choose rgS_ex
theorem rgS_eq : rgS = rg0 := Classical.choose_spec rgS_ex
theorem rgS_y {e ck t of ln : Nat} {d dd : List Nat} (h : RgtOk e t of ln d.length) : rgS [.agg [.int .u32 ((e : Nat) : Int), .int .u64 ((ck : Nat) : Int), .str d], .agg [.int .u16 0, .int .u16 ((t : Nat) : Int), .int .u64 0, .int .u64 ((of : Nat) : Int), .int .u32 ((ln : Nat) : Int), .str dd]] = some (.bool true) := by
 rw [rgS_eq]
 unfold rg0
 dsimp only
 rw [if_pos ⟨by omega, by omega, rfl, by omega, rfl, by omega, by omega, by simpa only [Int.toNat_natCast] using h⟩]
section
variable {P : Program} (hmix : P.follows .mixedOrders = true)
include hmix
theorem r110_ok (o : FOk P 110 c110) {la : CF Prop} (hla : zAv P la id) : zAv P (zAi 110 kdR la) id := zA9 (zAx o) (fun ρ args args' v hv ha => by
 have hcf := zAn (A := pA) zAX hmix (tab := tb0) (P := P) zEX zBl 5
 unfold kdR at hv
 split at hv
 ·cases hv; exact zAy hmix o hcf ha rfl rfl (fun K hK => kd_0 _ 0 rfl K hK)
 ·cases hv; exact zAy hmix o hcf ha rfl rfl (fun K hK => kd_1 _ 1 rfl K hK)
 ·cases hv; exact zAy hmix o hcf ha rfl rfl (fun K hK => kd_3 _ 3 rfl K hK)
 ·cases hv; exact zAy hmix o hcf ha rfl rfl (fun K hK => kd_6 _ 6 rfl K hK)
 ·cases hv; exact zAy hmix o hcf ha rfl rfl (fun K hK => kd_9 _ 9 rfl K hK)
 ·cases hv) hla
def RepH (P : Program) : Prop := ∀ (s : ByteArray) (c : Nat) (w : World), c ≤ 9223372036854775807 → s.size * c ≤ 140737488355328 →
   Calls P 25 #[.string s, .int .i64 c] w fun e w' => e = .returned (.string ⟨(Lib.repeatL s.data.toList c).toArray⟩) ∧ Go.RowKit.Below w.heap.size w w'
omit hmix in
theorem r25_ok (hcl : zCm P 25) (hr : RepH P) {la : CF Prop} (hla : zAv P la id) : zAv P (zAi 25 rrR la) id := zA9 hcl (fun ρ args args' v hv ha => by
 unfold rrR at hv
 split at hv
 ·rename_i s c
  cases e : (Nat.ble (s.length * c) 140737488355328 && Nat.ble c 9223372036854775807) with
  | false => rw [e] at hv; cases hv
  | true =>
   rw [e] at hv
   cases hv
   simp only [Bool.and_eq_true, zAA] at e
   intro w
   cases ha with | cons k3 k4 =>
   cases k4 with | cons k5 k6 =>
   cases k6
   cases k3 with | str s =>
   cases k5
   refine (hr s c w e.2 (by rw [← bytesOf_length]; exact e.1)).mono fun e w' ⟨he, hs⟩ => ?_
   refine ⟨_, he, fun ρ => ?_, Below.stays hs⟩
   rw [Go.AM.repL_bytes]
   exact .str _
 ·cases hv) hla
theorem r12_ok (o : FOk P 12 c12) (hr : zAv P (zAi 25 rrR la0) id) {la : CF Prop} (hla : zAv P la id) : zAv P (zAi 12 rqS la) id := zA9 (zAx o) (fun ρ args args' v hv ha => by
 rw [rqS_eq] at hv; unfold rq0 at hv; split at hv
 ·rename_i n
  split at hv
  ·rename_i hh
   obtain ⟨h1, h2⟩ := hh
   cases hv
   obtain ⟨n, rfl⟩ := Int.eq_ofNat_of_zero_le h1
   have hn : n < 65536 := by omega
   have hcf := zAn (A := pA) zAX hmix (tab := tb0) (P := P) zEX hr 5
   refine zAy hmix o hcf ha rfl rfl (fun K hK => ?_)
   rw [Int.toNat_natCast] at hK
   have hK : ∀ mm, K (rqV n) mm := hK
   have h8 : n % 8 < 8 := Nat.mod_lt _ (by decide)
   have hr1 := rrR_y (s := [97 + n % 26]) (c := 64 * (1 + n / 128 % 2)) (Nat.le_refl 1) (by omega)
   have go : ∀ t d, rqT n = t → rqD n = d → (t = 1 → n % 8 ≠ 4 ∧ d = Go.AM.repL [97 + n % 26] (64 * (1 + n / 128 % 2))) → (t = 3 → n % 8 = 4 ∧ d = []) → (t ≠ 1 → t ≠ 3 → n % 8 ≠ 4 ∧ d = []) → t < 65536 → nth [V.int .u16 0, V.int .u16 1, V.int .u16 0, V.int .u16 6, V.int .u16 3, V.int .u16 1, V.int .u16 0, V.int .u16 9] (n % 8) = some (.int .u16 ((t : Nat) : Int)) → zAD pA (zAt pA tb0 (zAi 25 rrR la0) 5) Ys.none c12 [.int .u16 ((n : Nat) : Int)] ⟨0, .leaf⟩ K := by
    intro t d ht hd g1 g3 g0 h6 hx
    unfold rqV at hK
    rw [ht, hd] at hK
    unfold rqO rqN at hK
    by_cases e1 : t = 1
    ·obtain ⟨e4, rfl⟩ := g1 e1
     rw [if_neg e4, if_neg e4] at hK
     by_cases e97 : n % 97 = 0
     ·rw [if_pos e97] at hK
      exact rq_wy _ _ n t hn h6 h8 hx _ hr1 e1 e97 K hK
     ·rw [if_neg e97] at hK
      exact rq_wn _ _ n t hn h6 h8 hx _ hr1 e1 e97 K hK
    ·by_cases e3 : t = 3
     ·obtain ⟨e4, rfl⟩ := g3 e3
      rw [if_pos e4, if_pos e4] at hK
      by_cases e97 : n % 97 = 0
      ·rw [if_pos e97] at hK
       exact rq_fy _ _ n t hn h6 h8 hx e3 e97 K hK
      ·rw [if_neg e97] at hK
       exact rq_fn _ _ n t hn h6 h8 hx e3 e97 K hK
     ·obtain ⟨e4, rfl⟩ := g0 e1 e3
      rw [if_neg e4, if_neg e4] at hK
      by_cases e97 : n % 97 = 0
      ·rw [if_pos e97] at hK
       exact rq_oy _ _ n t hn h6 h8 hx e1 e3 e97 K hK
      ·rw [if_neg e97] at hK
       exact rq_on _ _ n t hn h6 h8 hx e1 e3 e97 K hK
   have hc : n % 8 = 0 ∨ n % 8 = 1 ∨ n % 8 = 2 ∨ n % 8 = 3 ∨ n % 8 = 4 ∨ n % 8 = 5 ∨ n % 8 = 6 ∨ n % 8 = 7 := by omega
   rcases hc with e | e | e | e | e | e | e | e
   ·exact go 0 [] (by simp [rqT, e]) (by simp [rqD, e]) (fun h => by cases h) (fun h => by cases h) (fun _ _ => ⟨by omega, rfl⟩) (by decide) (by rw [e]; rfl)
   ·exact go 1 _ (by simp [rqT, e]) (by simp [rqD, e]) (fun _ => ⟨by omega, rfl⟩) (fun h => by cases h) (fun h => absurd rfl h) (by decide) (by rw [e]; rfl)
   ·exact go 0 [] (by simp [rqT, e]) (by simp [rqD, e]) (fun h => by cases h) (fun h => by cases h) (fun _ _ => ⟨by omega, rfl⟩) (by decide) (by rw [e]; rfl)
   ·exact go 6 [] (by simp [rqT, e]) (by simp [rqD, e]) (fun h => by cases h) (fun h => by cases h) (fun _ _ => ⟨by omega, rfl⟩) (by decide) (by rw [e]; rfl)
   ·exact go 3 [] (by simp [rqT, e]) (by simp [rqD, e]) (fun h => by cases h) (fun _ => ⟨e, rfl⟩) (fun _ h => absurd rfl h) (by decide) (by rw [e]; rfl)
   ·exact go 1 _ (by simp [rqT, e]) (by simp [rqD, e]) (fun _ => ⟨by omega, rfl⟩) (fun h => by cases h) (fun h => absurd rfl h) (by decide) (by rw [e]; rfl)
   ·exact go 0 [] (by simp [rqT, e]) (by simp [rqD, e]) (fun h => by cases h) (fun h => by cases h) (fun _ _ => ⟨by omega, rfl⟩) (by decide) (by rw [e]; rfl)
   ·exact go 9 [] (by simp [rqT, e]) (by simp [rqD, e]) (fun h => by cases h) (fun h => by cases h) (fun _ _ => ⟨by omega, rfl⟩) (by decide) (by rw [e]; rfl)
  ·cases hv
 ·cases hv) hla
theorem r17_ok (o : FOk P 17 c17) {la : CF Prop} (hla : zAv P la id) : zAv P (zAi 17 rgS la) id := zA9 (zAx o) (fun ρ args args' v hv ha => by
 rw [rgS_eq] at hv; unfold rg0 at hv; split at hv
 ·split at hv
  ·rename_i e ck d f t z of ln dd hh
   obtain ⟨h1, h2, rfl, h3, rfl, h4, h5, ht, ho, hl, hd, he, h6⟩ := hh
   cases hv
   obtain ⟨e, rfl⟩ := Int.eq_ofNat_of_zero_le h1
   obtain ⟨ck, rfl⟩ := Int.eq_ofNat_of_zero_le h2
   obtain ⟨t, rfl⟩ := Int.eq_ofNat_of_zero_le h3
   obtain ⟨of, rfl⟩ := Int.eq_ofNat_of_zero_le h4
   obtain ⟨ln, rfl⟩ := Int.eq_ofNat_of_zero_le h5
   simp only [Int.toNat_natCast] at *
   have hcf := zAn (A := pA) zAX hmix (tab := tb0) (P := P) zEX zBl 5
   refine zAy hmix o hcf ha rfl rfl (fun K hK => ?_)
   rcases h6 with ⟨e1, e2, e3⟩ | ⟨e1, e2, e3, e4, e5⟩
   ·have hd0 : d = [] := List.length_eq_zero_iff.1 e2
    subst hd0
    by_cases t9 : t = 9
    ·exact rg_9 _ e ck t of ln [] dd he ht ho hl hd e1 rfl t9 K hK
    ·have e3 : of = 1 := e3.resolve_left t9
     by_cases t3 : t = 3
     ·exact rg_3 _ e ck t of ln [] dd he ht ho hl hd e1 rfl t3 e3 K hK
     ·exact rg_1 _ e ck t of ln [] dd he ht ho hl hd e1 rfl t9 t3 e3 K hK
   ·by_cases t0 : t = 0
    ·rw [if_pos t0] at e5
     exact rg_r _ e ck t of ln d dd he ht ho hl hd (of / 64) e1 e3.symm t0 e5 K hK
    ·rw [if_neg t0] at e5
     by_cases t3 : t = 3
     ·exact rg_f _ e ck t of ln d dd he ht ho hl hd (of / 64) e1 e3.symm t3 (e4 t3) e5 K hK
     ·exact rg_w _ e ck t of ln d dd he ht ho hl hd (of / 64) e1 e3.symm t0 t3 e2 e5 K hK
  ·cases hv
 ·cases hv) hla
end
structure It where
 ck : Nat
 tg : Nat
 n : Nat
 p : Nat
abbrev zA4 (st : Bool) (l : Nat) (ov : V) (mb : Nat) (out : List Nat) (over : Bool) : zAe := .cells [.int .i64 16, .bool st, .str [], .str out, .int .i64 ((l : Nat) : Int), ov, .map mb, .bool over, .bool false] false
def xL (D : Nat → List Nat) (sp hv : V) : List V := .any :: sp :: .str (D 0) :: .str (D 1) :: .str (D 2) :: .str (D 3) :: .str (D 4) :: .str (D 5) :: .str (D 6) :: .str (D 7) :: .str (D 8) :: .str (D 9) :: .str (D 10) :: .str (D 11) :: .str (D 12) :: .str (D 13) :: .str (D 14) :: .str (D 15) :: hv :: []
def kdT (t : Nat) : Nat := if t = 0 then 1 else if t = 1 then 2 else if t = 3 then 3 else if t = 6 then 4 else 0
def zGH (tg n : Nat) : List V := [.int .i64 ((tg : Nat) : Int), .int .u8 ((kdT (rqT n) : Nat) : Int), .int .i64 (((rqO n / 64) : Nat) : Int), .int .i64 (((rqN n / 64) : Nat) : Int), .str (rqD n)]
def zAo : List It → List V
 | [] => []
 | x :: l => zGH x.tg x.n ++ zAo l
def fmE (x : It) : Nat × V × Nat := (x.tg, .agg [.int .u16 0, .int .u16 ((rqT x.n : Nat) : Int), .int .u64 ((x.ck : Nat) : Int), .int .u64 ((rqO x.n : Nat) : Int), .int .u32 ((rqN x.n : Nat) : Int), .str []], x.tg - 1)
def fmL (l : List It) : EnG := l.map fmE
def hvV (z : Bool) (n b : Nat) : V := bif z then .nilslice else .slice b 0 n n 5
def ovV (z : Bool) (c b : Nat) : V := bif z then .nilslice else .slice b c 0 0 5
def dO (z : Bool) (l : List V) : zAe := bif z then .dead else .cells l false
def Good (n : Nat) : Prop := n % 97 ≠ 0 ∧ n % 8 ≠ 7
instance (n : Nat) : Decidable (Good n) := inferInstanceAs (Decidable (_ ∧ _))
theorem x_1 (D : Nat → List Nat) (s h : V) : nth (xL D s h) 1 = some s := by kernel_rfl
theorem zD4 (D : Nat → List Nat) (s h : V) : nth (xL D s h) 18 = some h := by kernel_rfl
theorem zH9 (D : Nat → List Nat) (s h k : V) (hk : k.one = true) : putAt [k] 18 (xL D s h) = some (xL D s k) := by simp only [xL, putAt, putN, hk, cond_true]
abbrev badC (XL : List V) (st : Bool) (l : Nat) (ov : V) (fs : List (V × V × Nat)) (OB HB : zAe) (b w : List Nat) (over : Bool) (fs2 : List (V × V × Nat)) : Con := ⟨[.ptr 0 0, .str b], [.cells XL false, zA4 st l ov 2 [] false, .map fs l false, OB, HB], .str w, [.cells XL false, zA4 st l ov 2 [] over, .map fs2 l false, OB, HB], []⟩
theorem zFA : ∀ a b : List It, zAo (a ++ b) = zAo a ++ zAo b
 | [], _ => rfl
 | x :: a, b => by simp only [zAo, List.cons_append, zFA a b, List.append_assoc]
theorem zDF : ∀ l : List It, (zAo l).length = 5 * l.length
 | [] => rfl
 | x :: l => by
  show (zGH x.tg x.n ++ zAo l).length = _
  rw [List.length_append, zDF l]
  show 5 + _ = 5 * (l.length + 1); omega
theorem fmL_len (l : List It) : (fmL l).length = l.length := List.length_map _
theorem fmL_snoc (l : List It) (x : It) : enG .i64 (fmL (l ++ [x])) = enG .i64 (fmL l) ++ enG .i64 [fmE x] := by
 unfold fmL; rw [List.map_append, zJa]; rfl
theorem rq8 (n : Nat) : n % 8 = 0 ∨ n % 8 = 1 ∨ n % 8 = 2 ∨ n % 8 = 3 ∨ n % 8 = 4 ∨ n % 8 = 5 ∨ n % 8 = 6 ∨ n % 8 = 7 := by omega
theorem zBf (n : Nat) : ((n % 8 = 0 ∨ n % 8 = 2 ∨ n % 8 = 6) ∧ rqT n = 0) ∨ ((n % 8 = 1 ∨ n % 8 = 5) ∧ rqT n = 1) ∨ (n % 8 = 3 ∧ rqT n = 6) ∨ (n % 8 = 4 ∧ rqT n = 3) ∨ (n % 8 = 7 ∧ rqT n = 9) := by
 rcases rq8 n with e | e | e | e | e | e | e | e <;> simp [rqT, e]
theorem zBV (n : Nat) : rqT n < 65536 := by rcases zBf n with ⟨_, h⟩ | ⟨_, h⟩ | ⟨_, h⟩ | ⟨_, h⟩ | ⟨_, h⟩ <;> omega
theorem zIT (n : Nat) : rqT n ≠ 2 := by rcases zBf n with ⟨_, h⟩ | ⟨_, h⟩ | ⟨_, h⟩ | ⟨_, h⟩ | ⟨_, h⟩ <;> omega
theorem zC5 (n : Nat) : rqO n ≤ 896 := by
 unfold rqO
 split
 ·omega
 ·split <;> omega
theorem zCM (n : Nat) : rqN n ≤ 128 := by unfold rqN; split <;> omega
theorem rqD_1 {n : Nat} (h : rqT n = 1) : (rqD n).length = rqN n := by
 rcases zBf n with ⟨_, e⟩ | ⟨e, _⟩ | ⟨_, e⟩ | ⟨_, e⟩ | ⟨_, e⟩ <;> try omega
 unfold rqD rqN
 rw [if_pos e, if_neg (by omega), zFx]
theorem rqD_0 {n : Nat} (h : rqT n ≠ 1) : rqD n = [] := by
 unfold rqD
 rw [if_neg]
 intro e
 apply h
 unfold rqT
 rw [if_pos e]
theorem rqD_lt (n : Nat) : ∀ b ∈ rqD n, b < 256 := by
 unfold rqD
 split
 ·exact zGQ (by omega) _
 ·intro b hb; cases hb
theorem kdR_y (n : Nat) : kdR [.int .u16 ((rqT n : Nat) : Int)] = some (.int .u8 ((kdT (rqT n) : Nat) : Int)) := by
 rcases zBf n with ⟨_, e⟩ | ⟨_, e⟩ | ⟨_, e⟩ | ⟨_, e⟩ | ⟨_, e⟩ <;> rw [e] <;> rfl
theorem kdT_le (n : Nat) : kdT (rqT n) ≤ 4 := by
 rcases zBf n with ⟨_, e⟩ | ⟨_, e⟩ | ⟨_, e⟩ | ⟨_, e⟩ | ⟨_, e⟩ <;> rw [e] <;> decide
theorem kdT_pos {n : Nat} (h : n % 8 ≠ 7) : 1 ≤ kdT (rqT n) := by
 rcases zBf n with ⟨_, e⟩ | ⟨_, e⟩ | ⟨_, e⟩ | ⟨_, e⟩ | ⟨h7, e⟩ <;> first | (rw [e]; decide) | exact absurd h7 h
theorem zGy {n : Nat} (h : Good n) (h3 : rqT n ≠ 3) : rqO n = 64 * (n / 8 % 15) ∧ rqN n = 64 * (1 + n / 128 % 2) := by
 have h4 : n % 8 ≠ 4 := by
  rcases zBf n with ⟨_, e⟩ | ⟨_, e⟩ | ⟨_, e⟩ | ⟨_, e⟩ | ⟨_, e⟩ <;> omega
 unfold rqO rqN
 rw [if_neg h.1, if_neg h4, if_neg h4]
 exact ⟨rfl, rfl⟩
theorem good_f {n : Nat} (h : Good n) (h3 : rqT n = 3) : rqO n = 0 ∧ rqN n = 0 := by
 have h4 : n % 8 = 4 := by
  rcases zBf n with ⟨_, e⟩ | ⟨_, e⟩ | ⟨_, e⟩ | ⟨_, e⟩ | ⟨_, e⟩ <;> omega
 unfold rqO rqN
 rw [if_neg h.1, if_pos h4, if_pos h4]
 exact ⟨rfl, rfl⟩
theorem growG {sz bytes k : Nat} {R new : List V} (hl : R.length = k * sz) (hs : small (k + 1) bytes = true) (ho : zDL new = true) : zBv sz bytes 1 new 0 k k R = some (R ++ new) := by
 have hn : Nat.ble (k + 1) k = false := by
  cases h : Nat.ble (k + 1) k with
  | false => rfl
  | true => have := zAA.1 h; omega
 unfold zBv
 rw [show zCk 0 R = R from rfl, zEe R _ hl.symm, hn, hs, ho]
 rfl
theorem zG9 {k : Nat} (h : k ≤ 1000) : small k 48 = true := by
 unfold small
 simp only [Bool.and_eq_true]
 exact ⟨zAA.2 (by omega), zAA.2 (by omega)⟩
theorem takeN0 (l : List V) : takeN 0 l = some [] := by cases l <;> rfl
abbrev rqB (ck n : Nat) : List Nat := rqL (rqT n) ck (rqO n) (rqN n) ++ rqD n
abbrev lbh : CF Prop := zAi 95 nqR (zAi 110 kdR (zAi 100 rpR (zAi 101 cbR (zAi 102 ecR la0))))
abbrev lbe : CF Prop := zAi 95 nqR (zAi 100 rpR (zAi 101 cbR (zAi 103 dcR la0)))
abbrev svM (D : Nat → List Nat) (st : Bool) (l : Nat) (z : Bool) (c : Nat) (OX : List V) (L : List It) : List zAe :=
 [.cells (xL D (.ptr 1 0) (hvV z L.length 4)) false, zA4 st l (ovV z c 3) 2 [] false, .map (enG .i64 (fmL L)) l false, dO z OX, dO z (zAo L)]
theorem rqB_len {ck n : Nat} : (rqB ck n).length ≤ 156 := by
 show (rqL _ _ _ _ ++ _).length ≤ _
 rw [q_len]
 by_cases h : rqT n = 1
 ·rw [rqD_1 h]; have := zCM n; omega
 ·rw [rqD_0 h]; show 28 + 0 ≤ 156; omega
theorem nq_B {ck n : Nat} (hck : ck ≤ 1000) : nqR [.str (rqB ck n), .int .i64 1024] = some (.tuple [.agg [.int .u16 0, .int .u16 ((rqT n : Nat) : Int), .int .u64 ((ck : Nat) : Int), .int .u64 ((rqO n : Nat) : Int), .int .u32 ((rqN n : Nat) : Int), .str (rqD n)], .int .i64 (((rqB ck n).length : Nat) : Int), .int .i64 0]) :=
 nq_req (zBV n) (by omega) (by have := zC5 n; omega) (by have := zCM n; omega) (rqD_lt n) (fun h => rqD_1 h) (fun h => rqD_0 h)
section
variable {P : Program} (hmix : P.follows .mixedOrders = true)
include hmix
theorem hears_good (O : Oks P) (hl : zAv P lbh id) {D : Nat → List Nat} {st : Bool} {l : Nat} {z : Bool} {c : Nat} {OX : List V} {L : List It} {n ck p : Nat} (hn : Good n) (hz : z = true → L = []) (hk : zDd (l + 1) (fmL L) = none) (h8 : L.length < 8) (hl1 : l ≤ 1000) (hck : ck ≤ 1000) :
  ∃ NB, (NB = 16 ∨ NB = 17) ∧ zAq P 8 ⟨[.ptr 0 0, .str (rqB ck n)], svM D st l z c OX L, .str [],
   [.cells (xL D (.ptr 1 0) (.slice NB 0 (L.length + 1) (L.length + 1) 5)) false, zA4 st (l + 1) (.slice 10 5 0 0 5) 2 [] false, .map (enG .i64 (fmL (L ++ [⟨ck, l + 1, n, p⟩]))) (l + 1) false, .dead, .dead],
   [(10, .cells (zGH (l + 1) n) false), (NB, .cells (zAo (L ++ [⟨ck, l + 1, n, p⟩])) false)]⟩ := by
 have hcf := zAn (A := pA) zAX hmix (tbH_ok O) hl 5
 have q1 := nq_B (n := n) hck
 have q0 := nqR_0
 have hb := rqB_len (ck := ck) (n := n)
 have hb1 : 28 ≤ (rqB ck n).length := by show 28 ≤ (rqL _ _ _ _ ++ _).length; rw [q_len]; omega
 generalize rqB ck n = b at q1 hb hb1 ⊢
 have ht := zBV n
 have h2 := zIT n
 have hof := zC5 n
 have hln := zCM n
 have hkd := kdR_y n
 have hk4 := kdT_le n
 have hk1 := kdT_pos hn.2
 have hfk := zI3 (kd := .i64) hk
 have hfl := fmL_snoc L ⟨ck, l + 1, n, p⟩
 have hlen : (enG .i64 (fmL L)).length = L.length := by rw [zFi, fmL_len]
 rw [hfl]
 have hfl2 : (enG .i64 (fmL L) ++ [(V.int .i64 (((l + 1 : Nat)) : Int), V.agg [.int .u16 0, .int .u16 ((rqT n : Nat) : Int), .int .u64 ((ck : Nat) : Int), .int .u64 ((rqO n : Nat) : Int), .int .u32 ((rqN n : Nat) : Int), .str []], l)]).length = (enG .i64 (fmL L)).length + 1 := List.length_append
 have go3 := good_f hn
 have gor := zGy hn
 cases z with
 | true =>
  have := hz rfl; subst this
  refine ⟨17, .inr rfl, ?_⟩
  by_cases h3 : rqT n = 3
  ·obtain ⟨e1, e2⟩ := go3 h3
   suffices h : ∀ XL XL2 : List V, nth XL 1 = some (.ptr 1 0) → nth XL 18 = some (.nilslice) → putAt [.slice 17 0 1 1 5] 18 XL = some XL2 → nth XL2 1 = some (.ptr 1 0) → nth XL2 18 = some (.slice 17 0 1 1 5) → zAq P 8 (zEG XL XL2 st l (rqT n) ck (rqO n) (rqN n) (kdT (rqT n)) (rqD n) b []) from h _ _ (x_1 _ _ _) (zD4 _ _ _) (zH9 _ _ _ _ rfl) (x_1 _ _ _) (zD4 _ _ _)
   intro XL XL2 h1 h2x h3x h4x h5x
   exact zAl hmix O.o8 hcf (he_gfa Ys.none _ _ _ _ _ st l (rqT n) ck (rqO n) (rqN n) (kdT (rqT n)) (rqD n) b hl1 ht (by omega) (by omega) hck hkd hk4 h2 q1 q0 (by omega) (by omega) (add_nil (by omega)) zA1 XL h1 _ (by decide) hfk hfl2 hk1 h3 e1 e2 XL2 h2x h3x h4x h5x)
  ·obtain ⟨e1, e2⟩ := gor h3
   suffices h : ∀ XL XL2 : List V, nth XL 1 = some (.ptr 1 0) → nth XL 18 = some (.nilslice) → putAt [.slice 17 0 1 1 5] 18 XL = some XL2 → nth XL2 1 = some (.ptr 1 0) → nth XL2 18 = some (.slice 17 0 1 1 5) → zAq P 8 (zED XL XL2 st l (rqT n) ck (rqO n) (rqN n) (kdT (rqT n)) (rqD n) b []) from h _ _ (x_1 _ _ _) (zD4 _ _ _) (zH9 _ _ _ _ rfl) (x_1 _ _ _) (zD4 _ _ _)
   intro XL XL2 h1 h2x h3x h4x h5x
   exact zAl hmix O.o8 hcf (he_gra Ys.none _ _ _ _ _ st l (rqT n) ck (rqO n) (rqN n) (kdT (rqT n)) (rqD n) b hl1 ht (by omega) (by omega) hck hkd hk4 h2 q1 q0 (by omega) (by omega) (add_nil (by omega)) zA1 XL h1 _ (by decide) hfk hfl2 hk1 h3 (n / 8 % 15) (1 + n / 128 % 2) e1 e2 (by omega) (by omega) (by omega) XL2 h2x h3x h4x h5x)
 | false =>
  have hg := growG (sz := 5) (bytes := 48) (k := L.length) (R := zAo L) (new := zGH (l + 1) n) (by rw [zDF]; omega) (zG9 (by omega)) rfl
  have ho : zAo (L ++ [⟨ck, l + 1, n, p⟩]) = zAo L ++ zGH (l + 1) n := by
   rw [zFA]
   show _ ++ (zGH (l + 1) n ++ []) = _
   rw [List.append_nil]
  rw [ho]
  by_cases h7 : L.length = 7
  ·refine ⟨16, .inl rfl, ?_⟩
   by_cases h3 : rqT n = 3
   ·obtain ⟨e1, e2⟩ := go3 h3
    suffices h : ∀ XL XL2 : List V, nth XL 1 = some (.ptr 1 0) → nth XL 18 = some (.slice 4 0 L.length L.length 5) → putAt [.slice 16 0 (L.length + 1) (L.length + 1) 5] 18 XL = some XL2 → nth XL2 1 = some (.ptr 1 0) → nth XL2 18 = some (.slice 16 0 (L.length + 1) (L.length + 1) 5) → zAq P 8 (zEE XL XL2 OX (zAo L) (zAo L ++ zGH (l + 1) n) st l (rqT n) ck (rqO n) (rqN n) (kdT (rqT n)) L.length c (rqD n) b (enG .i64 (fmL L))) from h _ _ (x_1 _ _ _) (zD4 _ _ _) (zH9 _ _ _ _ rfl) (x_1 _ _ _) (zD4 _ _ _)
    intro XL XL2 h1 h2x h3x h4x h5x
    exact zAl hmix O.o8 hcf (he_gfd Ys.none _ _ _ _ _ st l (rqT n) ck (rqO n) (rqN n) (kdT (rqT n)) (rqD n) b hl1 ht (by omega) (by omega) hck hkd hk4 h2 q1 q0 (by omega) (by omega) (add_nil (by omega)) zA1 XL h1 _ (by omega) hfk hfl2 hk1 h3 e1 e2 OX (zAo L) _ L.length c (by omega) (takeN0 _) hg XL2 h2x h3x h4x h5x)
   ·obtain ⟨e1, e2⟩ := gor h3
    suffices h : ∀ XL XL2 : List V, nth XL 1 = some (.ptr 1 0) → nth XL 18 = some (.slice 4 0 L.length L.length 5) → putAt [.slice 16 0 (L.length + 1) (L.length + 1) 5] 18 XL = some XL2 → nth XL2 1 = some (.ptr 1 0) → nth XL2 18 = some (.slice 16 0 (L.length + 1) (L.length + 1) 5) → zAq P 8 (zEB XL XL2 OX (zAo L) (zAo L ++ zGH (l + 1) n) st l (rqT n) ck (rqO n) (rqN n) (kdT (rqT n)) L.length c (rqD n) b (enG .i64 (fmL L))) from h _ _ (x_1 _ _ _) (zD4 _ _ _) (zH9 _ _ _ _ rfl) (x_1 _ _ _) (zD4 _ _ _)
    intro XL XL2 h1 h2x h3x h4x h5x
    exact zAl hmix O.o8 hcf (he_grd Ys.none _ _ _ _ _ st l (rqT n) ck (rqO n) (rqN n) (kdT (rqT n)) (rqD n) b hl1 ht (by omega) (by omega) hck hkd hk4 h2 q1 q0 (by omega) (by omega) (add_nil (by omega)) zA1 XL h1 _ (by omega) hfk hfl2 hk1 h3 (n / 8 % 15) (1 + n / 128 % 2) e1 e2 (by omega) (by omega) (by omega) OX (zAo L) _ L.length c (by omega) (takeN0 _) hg XL2 h2x h3x h4x h5x)
  ·refine ⟨17, .inr rfl, ?_⟩
   by_cases h3 : rqT n = 3
   ·obtain ⟨e1, e2⟩ := go3 h3
    suffices h : ∀ XL XL2 : List V, nth XL 1 = some (.ptr 1 0) → nth XL 18 = some (.slice 4 0 L.length L.length 5) → putAt [.slice 17 0 (L.length + 1) (L.length + 1) 5] 18 XL = some XL2 → nth XL2 1 = some (.ptr 1 0) → nth XL2 18 = some (.slice 17 0 (L.length + 1) (L.length + 1) 5) → zAq P 8 (zEF XL XL2 OX (zAo L) (zAo L ++ zGH (l + 1) n) st l (rqT n) ck (rqO n) (rqN n) (kdT (rqT n)) L.length c (rqD n) b (enG .i64 (fmL L))) from h _ _ (x_1 _ _ _) (zD4 _ _ _) (zH9 _ _ _ _ rfl) (x_1 _ _ _) (zD4 _ _ _)
    intro XL XL2 h1 h2x h3x h4x h5x
    exact zAl hmix O.o8 hcf (he_gfb Ys.none _ _ _ _ _ st l (rqT n) ck (rqO n) (rqN n) (kdT (rqT n)) (rqD n) b hl1 ht (by omega) (by omega) hck hkd hk4 h2 q1 q0 (by omega) (by omega) (add_nil (by omega)) zA1 XL h1 _ (by omega) hfk hfl2 hk1 h3 e1 e2 OX (zAo L) _ L.length c (by omega) (takeN0 _) hg XL2 h2x h3x h4x h5x)
   ·obtain ⟨e1, e2⟩ := gor h3
    suffices h : ∀ XL XL2 : List V, nth XL 1 = some (.ptr 1 0) → nth XL 18 = some (.slice 4 0 L.length L.length 5) → putAt [.slice 17 0 (L.length + 1) (L.length + 1) 5] 18 XL = some XL2 → nth XL2 1 = some (.ptr 1 0) → nth XL2 18 = some (.slice 17 0 (L.length + 1) (L.length + 1) 5) → zAq P 8 (zEC XL XL2 OX (zAo L) (zAo L ++ zGH (l + 1) n) st l (rqT n) ck (rqO n) (rqN n) (kdT (rqT n)) L.length c (rqD n) b (enG .i64 (fmL L))) from h _ _ (x_1 _ _ _) (zD4 _ _ _) (zH9 _ _ _ _ rfl) (x_1 _ _ _) (zD4 _ _ _)
    intro XL XL2 h1 h2x h3x h4x h5x
    exact zAl hmix O.o8 hcf (he_grb Ys.none _ _ _ _ _ st l (rqT n) ck (rqO n) (rqN n) (kdT (rqT n)) (rqD n) b hl1 ht (by omega) (by omega) hck hkd hk4 h2 q1 q0 (by omega) (by omega) (add_nil (by omega)) zA1 XL h1 _ (by omega) hfk hfl2 hk1 h3 (n / 8 % 15) (1 + n / 128 % 2) e1 e2 (by omega) (by omega) (by omega) OX (zAo L) _ L.length c (by omega) (takeN0 _) hg XL2 h2x h3x h4x h5x)
theorem hears_bad (O : Oks P) (hl : zAv P lbh id) {D : Nat → List Nat} {st : Bool} {l : Nat} {z : Bool} {c : Nat} {OX : List V} {L : List It} {n ck : Nat} (hn : ¬ Good n) (h8 : L.length < 8) (hl1 : l ≤ 1000) (hck : ck ≤ 1000) :
  ∃ w, zJm st (rqT n) ck (rqO n) (rqN n) w 22 [] ∧ zAq P 8 ⟨[.ptr 0 0, .str (rqB ck n)], svM D st l z c OX L, .str w, svM D st l z c OX L, []⟩ := by
 have hcf := zAn (A := pA) zAX hmix (tbH_ok O) hl 5
 have q1 := nq_B (n := n) hck
 have q0 := nqR_0
 have hb := rqB_len (ck := ck) (n := n)
 have hb1 : 28 ≤ (rqB ck n).length := by show 28 ≤ (rqL _ _ _ _ ++ _).length; rw [q_len]; omega
 generalize rqB ck n = b at q1 hb hb1 ⊢
 have ht := zBV n
 have h2 := zIT n
 have hof := zC5 n
 have hln := zCM n
 have hkd := kdR_y n
 have hk4 := kdT_le n
 have hlen : (enG .i64 (fmL L)).length = L.length := by rw [zFi, fmL_len]
 have hrp := rpR_y (e := 22) (ck := ck) (d := []) (by decide) (by omega) (by decide)
 have hpl : (rpL 22 ck ++ []).length = 16 := zFy
 by_cases h9 : n % 8 = 7
 ·have e9 : rqT n = 9 := by rcases zBf n with ⟨_, e⟩ | ⟨_, e⟩ | ⟨_, e⟩ | ⟨_, e⟩ | ⟨_, e⟩ <;> omega
  have hk0 : kdT (rqT n) = 0 := by rw [e9]; rfl
  refine ⟨_, .other (e := 22) (by omega) (by decide), ?_⟩
  generalize rpL 22 ck ++ [] = w at hrp hpl ⊢
  cases z with
  | true =>
   refine (fun h : ∀ XL : List V, nth XL 1 = some (.ptr 1 0) → nth XL 18 = some (.nilslice) → zAq P 8 (badC XL st l .nilslice (enG .i64 (fmL L)) .dead .dead b w false (enG .i64 (fmL L))) => h _ (x_1 _ _ _) (zD4 _ _ _)) fun XL h1 h2x => ?_
   exact zAl hmix O.o8 hcf (he_9a Ys.none _ _ _ _ _ st l (rqT n) ck (rqO n) (rqN n) (kdT (rqT n)) (rqD n) b hl1 ht (by omega) (by omega) hck hkd hk4 h2 q1 q0 (by omega) (by omega) (add_nil (by omega)) zA1 XL h1 _ (by omega) .dead .dead h2x hk0 (by omega) w (add_nil (by omega)) hrp)
  | false =>
   refine (fun h : ∀ XL : List V, nth XL 1 = some (.ptr 1 0) → nth XL 18 = some (.slice 4 0 L.length L.length 5) → zAq P 8 (badC XL st l (.slice 3 c 0 0 5) (enG .i64 (fmL L)) (.cells OX false) (.cells (zAo L) false) b w false (enG .i64 (fmL L))) => h _ (x_1 _ _ _) (zD4 _ _ _)) fun XL h1 h2x => ?_
   exact zAl hmix O.o8 hcf (he_9b Ys.none _ _ _ _ _ st l (rqT n) ck (rqO n) (rqN n) (kdT (rqT n)) (rqD n) b hl1 ht (by omega) (by omega) hck hkd hk4 h2 L.length c (by omega) q1 q0 (by omega) (by omega) (add_nil (by omega)) zA1 XL h1 _ (by omega) (.cells OX false) (.cells (zAo L) false) h2x hk0 (by omega) w (add_nil (by omega)) hrp)
 ·have h97 : n % 97 = 0 := by
   by_cases h : n % 97 = 0
   ·exact h
   ·exact absurd ⟨h, h9⟩ hn
  have ho : rqO n = 1 := by unfold rqO; rw [if_pos h97]
  have hk1 := kdT_pos h9
  by_cases h3 : rqT n = 3
  ·refine ⟨_, .other (e := 22) (by omega) (by decide), ?_⟩
   generalize rpL 22 ck ++ [] = w at hrp hpl ⊢
   cases z with
   | true =>
    refine (fun h : ∀ XL : List V, nth XL 1 = some (.ptr 1 0) → nth XL 18 = some (.nilslice) → zAq P 8 (badC XL st l .nilslice (enG .i64 (fmL L)) .dead .dead b w false (enG .i64 (fmL L))) => h _ (x_1 _ _ _) (zD4 _ _ _)) fun XL h1 h2x => ?_
    exact zAl hmix O.o8 hcf (he_fa Ys.none _ _ _ _ _ st l (rqT n) ck (rqO n) (rqN n) (kdT (rqT n)) (rqD n) b hl1 ht (by omega) (by omega) hck hkd hk4 h2 q1 q0 (by omega) (by omega) (add_nil (by omega)) zA1 XL h1 _ (by omega) .dead .dead h2x hk1 h3 ho w (add_nil (by omega)) hrp)
   | false =>
    refine (fun h : ∀ XL : List V, nth XL 1 = some (.ptr 1 0) → nth XL 18 = some (.slice 4 0 L.length L.length 5) → zAq P 8 (badC XL st l (.slice 3 c 0 0 5) (enG .i64 (fmL L)) (.cells OX false) (.cells (zAo L) false) b w false (enG .i64 (fmL L))) => h _ (x_1 _ _ _) (zD4 _ _ _)) fun XL h1 h2x => ?_
    exact zAl hmix O.o8 hcf (he_fb Ys.none _ _ _ _ _ st l (rqT n) ck (rqO n) (rqN n) (kdT (rqT n)) (rqD n) b hl1 ht (by omega) (by omega) hck hkd hk4 h2 L.length c (by omega) q1 q0 (by omega) (by omega) (add_nil (by omega)) zA1 XL h1 _ (by omega) (.cells OX false) (.cells (zAo L) false) h2x hk1 h3 ho w (add_nil (by omega)) hrp)
  ·by_cases h0 : rqT n = 0
   ·cases st with
    | false =>
     refine ⟨_, .bad (e := 22) rfl h0 (by decide) (by decide), ?_⟩
     generalize rpL 22 ck ++ [] = w at hrp hpl ⊢
     cases z with
     | true =>
      refine (fun h : ∀ XL : List V, nth XL 1 = some (.ptr 1 0) → nth XL 18 = some (.nilslice) → zAq P 8 (badC XL false l .nilslice (enG .i64 (fmL L)) .dead .dead b w false (enG .i64 (fmL L))) => h _ (x_1 _ _ _) (zD4 _ _ _)) fun XL h1 h2x => ?_
      exact zAl hmix O.o8 hcf (he_sa Ys.none _ _ _ _ _ l (rqT n) ck (rqO n) (rqN n) (kdT (rqT n)) (rqD n) b hl1 ht (by omega) (by omega) hck hkd hk4 h2 q1 q0 (by omega) (by omega) (add_nil (by omega)) zA1 XL h1 _ (by omega) .dead .dead h2x hk1 h0 ho w (add_nil (by omega)) hrp)
     | false =>
      refine (fun h : ∀ XL : List V, nth XL 1 = some (.ptr 1 0) → nth XL 18 = some (.slice 4 0 L.length L.length 5) → zAq P 8 (badC XL false l (.slice 3 c 0 0 5) (enG .i64 (fmL L)) (.cells OX false) (.cells (zAo L) false) b w false (enG .i64 (fmL L))) => h _ (x_1 _ _ _) (zD4 _ _ _)) fun XL h1 h2x => ?_
      exact zAl hmix O.o8 hcf (he_sb Ys.none _ _ _ _ _ l (rqT n) ck (rqO n) (rqN n) (kdT (rqT n)) (rqD n) b hl1 ht (by omega) (by omega) hck hkd hk4 h2 L.length c (by omega) q1 q0 (by omega) (by omega) (add_nil (by omega)) zA1 XL h1 _ (by omega) (.cells OX false) (.cells (zAo L) false) h2x hk1 h0 ho w (add_nil (by omega)) hrp)
    | true =>
     have hec := ecR_y (ck := ck) (e := 22) (by omega) (by decide)
     have hel : (erL 22).length = 6 := rfl
     have hcB := cbR_y (f := 1) (kd := 32769) (ck := ck) (d := erL 22) (by decide) (by decide) (by omega) (by rw [hel]; decide)
     have hcl : (chL 1 32769 ck (erL 22).length ++ erL 22).length = 26 := zHW.trans (by rw [hel])
     refine ⟨_, .err (e := 22) rfl h0 (by decide) (by decide), ?_⟩
     generalize chL 1 32769 ck (erL 22).length ++ erL 22 = w at hcB hcl ⊢
     generalize erL 22 = y at hec hcB
     cases z with
     | true =>
      refine (fun h : ∀ XL : List V, nth XL 1 = some (.ptr 1 0) → nth XL 18 = some (.nilslice) → zAq P 8 (badC XL true l .nilslice (enG .i64 (fmL L)) .dead .dead b w false (enG .i64 (fmL L))) => h _ (x_1 _ _ _) (zD4 _ _ _)) fun XL h1 h2x => ?_
      exact zAl hmix O.o8 hcf (he_ca Ys.none _ _ _ _ _ l (rqT n) ck (rqO n) (rqN n) (kdT (rqT n)) (rqD n) b hl1 ht (by omega) (by omega) hck hkd hk4 h2 q1 q0 (by omega) (by omega) (add_nil (by omega)) zA1 XL h1 _ (by omega) .dead .dead h2x hk1 h0 ho w (add_nil (by omega)) y hec hcB)
     | false =>
      refine (fun h : ∀ XL : List V, nth XL 1 = some (.ptr 1 0) → nth XL 18 = some (.slice 4 0 L.length L.length 5) → zAq P 8 (badC XL true l (.slice 3 c 0 0 5) (enG .i64 (fmL L)) (.cells OX false) (.cells (zAo L) false) b w false (enG .i64 (fmL L))) => h _ (x_1 _ _ _) (zD4 _ _ _)) fun XL h1 h2x => ?_
      exact zAl hmix O.o8 hcf (he_cb Ys.none _ _ _ _ _ l (rqT n) ck (rqO n) (rqN n) (kdT (rqT n)) (rqD n) b hl1 ht (by omega) (by omega) hck hkd hk4 h2 L.length c (by omega) q1 q0 (by omega) (by omega) (add_nil (by omega)) zA1 XL h1 _ (by omega) (.cells OX false) (.cells (zAo L) false) h2x hk1 h0 ho w (add_nil (by omega)) y hec hcB)
   ·refine ⟨_, .other (e := 22) (by omega) (by decide), ?_⟩
    generalize rpL 22 ck ++ [] = w at hrp hpl ⊢
    cases z with
    | true =>
     refine (fun h : ∀ XL : List V, nth XL 1 = some (.ptr 1 0) → nth XL 18 = some (.nilslice) → zAq P 8 (badC XL st l .nilslice (enG .i64 (fmL L)) .dead .dead b w false (enG .i64 (fmL L))) => h _ (x_1 _ _ _) (zD4 _ _ _)) fun XL h1 h2x => ?_
     exact zAl hmix O.o8 hcf (he_oa Ys.none _ _ _ _ _ st l (rqT n) ck (rqO n) (rqN n) (kdT (rqT n)) (rqD n) b hl1 ht (by omega) (by omega) hck hkd hk4 h2 q1 q0 (by omega) (by omega) (add_nil (by omega)) zA1 XL h1 _ (by omega) .dead .dead h2x hk1 h3 ho h0 w (add_nil (by omega)) hrp)
    | false =>
     refine (fun h : ∀ XL : List V, nth XL 1 = some (.ptr 1 0) → nth XL 18 = some (.slice 4 0 L.length L.length 5) → zAq P 8 (badC XL st l (.slice 3 c 0 0 5) (enG .i64 (fmL L)) (.cells OX false) (.cells (zAo L) false) b w false (enG .i64 (fmL L))) => h _ (x_1 _ _ _) (zD4 _ _ _)) fun XL h1 h2x => ?_
     exact zAl hmix O.o8 hcf (he_ob Ys.none _ _ _ _ _ st l (rqT n) ck (rqO n) (rqN n) (kdT (rqT n)) (rqD n) b hl1 ht (by omega) (by omega) hck hkd hk4 h2 L.length c (by omega) q1 q0 (by omega) (by omega) (add_nil (by omega)) zA1 XL h1 _ (by omega) (.cells OX false) (.cells (zAo L) false) h2x hk1 h3 ho h0 w (add_nil (by omega)) hrp)
theorem hears_leave (O : Oks P) (hl : zAv P lbh id) {D : Nat → List Nat} {st : Bool} {l : Nat} {z : Bool} {c : Nat} {OX : List V} {ck : Nat} (hl1 : l ≤ 1000) (hck : ck ≤ 1001) :
  zAq P 8 ⟨[.ptr 0 0, .str (rqL 2 ck 0 0 ++ [])], svM D st l z c OX [], .str [], [.cells (xL D (.ptr 1 0) (hvV z 0 4)) false, zA4 st l (ovV z c 3) 2 [] true, .map [] l false, dO z OX, dO z []], []⟩ := by
 have hcf := zAn (A := pA) zAX hmix (tbH_ok O) hl 5
 have q1 := nq_req (kd := 2) (ck := ck) (of := 0) (ln := 0) (d := []) (by decide) (by omega) (by decide) (by decide) (by decide) (by decide) (by decide)
 have q0 := nqR_0
 have hb : (rqL 2 ck 0 0 ++ []).length = 28 := q_len
 generalize rqL 2 ck 0 0 ++ [] = b at q1 hb ⊢
 cases z with
 | true =>
  refine (fun h : ∀ XL : List V, nth XL 1 = some (.ptr 1 0) → nth XL 18 = some (.nilslice) → zAq P 8 (badC XL st l .nilslice [] .dead .dead b [] true []) => h _ (x_1 _ _ _) (zD4 _ _ _)) fun XL h1 h2x => ?_
  exact zAl hmix O.o8 hcf (he_da Ys.none _ _ _ _ _ st l ck b q1 q0 (by omega) (by omega) (add_nil (by omega)) zA1 XL h1 h2x [] (by decide) .dead .dead)
 | false =>
  refine (fun h : ∀ XL : List V, nth XL 1 = some (.ptr 1 0) → nth XL 18 = some (.slice 4 0 0 0 5) → zAq P 8 (badC XL st l (.slice 3 c 0 0 5) [] (.cells OX false) (.cells [] false) b [] true []) => h _ (x_1 _ _ _) (zD4 _ _ _)) fun XL h1 h2x => ?_
  exact zAl hmix O.o8 hcf (he_db Ys.none _ _ _ _ _ st l ck b 0 c (by decide) q1 q0 (by omega) (by omega) (add_nil (by omega)) zA1 XL h1 h2x [] (by decide) (.cells OX false) (.cells [] false))
theorem zIK (O : Oks P) {st : Bool} {l : Nat} {ov : V} : zAq P 21 ⟨[.ptr 0 0], [zA4 st l ov 1 [] true, .map [] l false, .dead], .bool true, [zA4 st l ov 1 [] true, .map [] l false, .dead], []⟩ :=
 zAl hmix O.o21 (zAn (A := pA) zAX hmix (tbS_ok O) zBl 5) (sv_c Ys.none st l ov)
end
end Go.Proofs.YtjekgdkaejgpdaaGreat
