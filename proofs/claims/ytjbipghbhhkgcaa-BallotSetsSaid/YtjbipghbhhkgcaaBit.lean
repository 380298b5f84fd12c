/- Plain arithmetic: a set as a number of 64 bits: which numbers are in it, how many, and what is in two; no program in sight. -/
import Derived.Test.YtjbipghbhhkgcaaPop
import Derived.Test.YtjbipghbhhkgcaaWMore
import Derived.Laws.BitsLemmas
set_option linter.unusedVariables false
namespace Go.Proofs.Ytjbipghbhhkgcaa.Pop
open Go.RowKit Go.Proofs.YtjbipghbhhkgcaaW.PrintWords Go.Proofs.YtjbipghbhhkgcaaW.PrintMore

theorem w64 (n : Int) : IntKind.u64.wrap n = n % 18446744073709551616 := by simp [IntKind.wrap, IntKind.bits, IntKind.signed]
theorem w64_in (n : Int) (h0 : 0 ≤ n) (h1 : n < 18446744073709551616) : IntKind.u64.wrap n = n := by rw [w64]; omega
theorem i64_in (n : Int) (h0 : 0 ≤ n) (h1 : n < 9223372036854775808) : wrap64 n = n := by unfold wrap64; omega

def i1 (a : Int) : Int := IntKind.u64.wrap (Go.bits .and .u64 (a / 2) 6148914691236517205 + Go.bits .and .u64 a 6148914691236517205)
def i2 (a : Int) : Int := IntKind.u64.wrap (Go.bits .and .u64 (a / 4) 3689348814741910323 + Go.bits .and .u64 a 3689348814741910323)
def i3 (a : Int) : Int := Go.bits .and .u64 (IntKind.u64.wrap (a / 16 + a)) 1085102592571150095
def i4 (a : Int) : Int := IntKind.u64.wrap (a + a / 256)
def i5 (a : Int) : Int := IntKind.u64.wrap (a + a / 65536)
def i6 (a : Int) : Int := IntKind.u64.wrap (a + a / 4294967296)
def ones64 (a : Int) : Int := Go.bits .and .i64 (wrap64 (i6 (i5 (i4 (i3 (i2 (i1 a))))))) 127

theorem s1_lt (x : Nat) : s1 6148914691236517205 x ≤ 12297829382473034410 := by
  unfold s1
  have h1 : x / 2 &&& 6148914691236517205 ≤ 6148914691236517205 := Nat.and_le_right
  have h2 : x &&& 6148914691236517205 ≤ 6148914691236517205 := Nat.and_le_right
  omega
theorem s2_lt (x : Nat) : s2 3689348814741910323 x ≤ 7378697629483820646 := by
  unfold s2
  have h1 : x / 4 &&& 3689348814741910323 ≤ 3689348814741910323 := Nat.and_le_right
  have h2 : x &&& 3689348814741910323 ≤ 3689348814741910323 := Nat.and_le_right
  omega

theorem i1_is (x : Nat) (h : x < 18446744073709551616) : i1 x = (s1 6148914691236517205 x : Nat) := by
  unfold i1
  have e : (x : Int) / 2 = ((x / 2 : Nat) : Int) := by omega
  have e2 : (6148914691236517205 : Int) = ((6148914691236517205 : Nat) : Int) := rfl
  have := s1_lt x
  rw [e, e2, u64_and_nat _ _ (by omega) (by omega), u64_and_nat _ _ h (by omega), w64_in _ (by omega) (by unfold s1 at this; omega)]
  unfold s1
  omega
theorem i2_is (x : Nat) (h : x < 18446744073709551616) : i2 x = (s2 3689348814741910323 x : Nat) := by
  unfold i2
  have e : (x : Int) / 4 = ((x / 4 : Nat) : Int) := by omega
  have e2 : (3689348814741910323 : Int) = ((3689348814741910323 : Nat) : Int) := rfl
  have := s2_lt x
  rw [e, e2, u64_and_nat _ _ (by omega) (by omega), u64_and_nat _ _ h (by omega), w64_in _ (by omega) (by unfold s2 at this; omega)]
  unfold s2
  omega
theorem i3_is (x : Nat) (h : x ≤ 7378697629483820646) : i3 x = (s3 1085102592571150095 x : Nat) := by
  unfold i3 s3
  have e : (x : Int) / 16 + x = ((x / 16 + x : Nat) : Int) := by omega
  have e2 : (1085102592571150095 : Int) = ((1085102592571150095 : Nat) : Int) := rfl
  rw [e, e2, w64_in _ (by omega) (by omega), u64_and_nat _ _ (by omega) (by omega)]

theorem ones64_is (x : Nat) (h : x < 18446744073709551616) : ones64 x = (pcn 64 x : Nat) := by
  have hs := ones x
  have r85 : rep 85 8 = 6148914691236517205 := by decide
  have r51 : rep 51 8 = 3689348814741910323 := by decide
  have r15 : rep 15 8 = 1085102592571150095 := by decide
  rw [r85, r51, r15] at hs
  have l1 := s1_lt x
  have l2 := s2_lt (s1 6148914691236517205 x)
  unfold ones64
  rw [i1_is x h, i2_is _ (by omega), i3_is _ l2]
  generalize s3 1085102592571150095 (s2 3689348814741910323 (s1 6148914691236517205 x)) = y at hs
  obtain ⟨hy, hs⟩ := hs
  have e4 : i4 y = ((y + y / 256 : Nat) : Int) := by
    unfold i4
    rw [w64_in _ (by omega) (by omega)]
    omega
  have e5 : i5 ((y + y / 256 : Nat) : Int) = (((y + y / 256) + (y + y / 256) / 65536 : Nat) : Int) := by
    unfold i5
    rw [w64_in _ (by omega) (by omega)]
    omega
  have e6 : i6 (((y + y / 256) + (y + y / 256) / 65536 : Nat) : Int) = ((s6 y : Nat) : Int) := by
    unfold i6 s6
    rw [w64_in _ (by omega) (by omega)]
    omega
  have h6 : s6 y < 4611686018427387904 := by
    unfold s6
    omega
  rw [e4, e5, e6, i64_in _ (by omega) (by omega)]
  have hm := bits_mask .i64 63 (by decide) (fun n h0 h1 => by rw [IntKind.wrap_i64]; omega) 7 (by decide) (s6 y : Nat) (by omega) (by omega)
  have h127 : ((2 : Int) ^ 7 - 1) = 127 := by decide
  have h128 : ((2 : Int) ^ 7) = 128 := by decide
  rw [h127, h128] at hm
  rw [hm, ← hs]
  omega

/-- How many numbers from 1 to n are in the set s. -/
def cnt (n s : Nat) : Nat := pcn n (s / 2)

theorem and_even (x : Nat) (h : x < 18446744073709551616) : x &&& 18446744073709551614 = 2 * (x / 2) := by
  have e1 : (x &&& 18446744073709551614) / 2 ^ 1 = (x / 2 ^ 1) &&& (18446744073709551614 / 2 ^ 1) := Nat.and_div_two_pow
  have e2 : (x &&& 18446744073709551614) % 2 ^ 1 = (x % 2 ^ 1) &&& (18446744073709551614 % 2 ^ 1) := Nat.and_mod_two_pow
  have f1 : (18446744073709551614 : Nat) / 2 ^ 1 = 2 ^ 63 - 1 := by decide
  have f2 : (18446744073709551614 : Nat) % 2 ^ 1 = 0 := by decide
  rw [f1, Nat.and_two_pow_sub_one_eq_mod] at e1
  rw [f2, Nat.and_zero] at e2
  omega

theorem pcn_double (n y : Nat) : pcn (n + 1) (2 * y) = pcn n y := by
  simp only [pcn]
  rw [show 2 * y % 2 = 0 by omega, show 2 * y / 2 = y by omega]
  omega

theorem count_is (s : Nat) (h : s < 18446744073709551616) : ones64 (Go.bits .andNot .u64 s 1) = (cnt 63 s : Nat) := by
  have e := u64_andNot_nat s 1 h (by omega)
  rw [show ((1 : Nat) : Int) = 1 from rfl] at e
  rw [e, show 18446744073709551615 - 1 = 18446744073709551614 from rfl, and_even s h, ones64_is _ (by omega)]
  unfold cnt
  rw [← pcn_double 63]

theorem pcn_cut (n m y : Nat) (h : n ≤ m) : pcn m (y % 2 ^ n) = pcn n y := by
  obtain ⟨d, rfl⟩ : ∃ d, m = n + d := ⟨m - n, by omega⟩
  rw [pcn_add, pcn_mod, Nat.div_eq_of_lt (Nat.mod_lt _ (Nat.two_pow_pos n)), pcn_zero]
  omega

theorem cnt_cut (n s : Nat) (h : n ≤ 63) : cnt 63 (s % 2 ^ (n + 1)) = cnt n s := by
  unfold cnt
  rw [Nat.pow_succ, Nat.mul_comm, Nat.mod_mul_right_div_self, pcn_cut _ _ _ h]

/-- The mask of the numbers up to n. -/
theorem mask_is (n : Nat) (h1 : n < 63) : IntKind.u64.wrap (shl .u64 1 ((n : Int) + 1) - 1) = (2 : Int) ^ (n + 1) - 1 := by
  unfold shl
  rw [show min ((n : Int) + 1).toNat IntKind.u64.bits = n + 1 from by
    have : IntKind.u64.bits = 64 := rfl
    rw [this]
    omega]
  have hp : (2 : Nat) ^ (n + 1) ≤ 2 ^ 63 := Nat.pow_le_pow_right (by decide) (by omega)
  have hq : 0 < (2 : Nat) ^ (n + 1) := Nat.two_pow_pos _
  have hc : ((2 : Int) ^ (n + 1)) = ((2 ^ (n + 1) : Nat) : Int) := by simp
  rw [Int.one_mul, hc]
  generalize (2 : Nat) ^ (n + 1) = p at hp hq
  rw [w64_in (p : Int) (by omega) (by omega), w64_in _ (by omega) (by omega)]

theorem cut_is (n s : Nat) (hs : s < 18446744073709551616) (h1 : n < 63) : Go.bits .and .u64 s (IntKind.u64.wrap (shl .u64 1 ((n : Int) + 1) - 1)) = ((s % 2 ^ (n + 1) : Nat) : Int) := by
  rw [mask_is n h1]
  rw [bits_mask .u64 64 (by decide) (fun n h0 h1 => w64_in n h0 (by simpa using h1)) (n + 1) (by omega) s (by omega) (by simpa using (show (s : Int) < 18446744073709551616 by omega))]
  simp

theorem pcn_meet (n : Nat) : ∀ x y, pcn n x + pcn n y ≤ n + pcn n (x &&& y) := by
  induction n with
  | zero => intro x y; simp [pcn]
  | succ n ih =>
    intro x y
    have e1 : (x &&& y) / 2 ^ 1 = (x / 2 ^ 1) &&& (y / 2 ^ 1) := Nat.and_div_two_pow
    have e2 : (x &&& y) % 2 ^ 1 = (x % 2 ^ 1) &&& (y % 2 ^ 1) := Nat.and_mod_two_pow
    rw [Nat.pow_one] at e1 e2
    simp only [pcn]
    rw [e1, e2]
    have h := ih (x / 2) (y / 2)
    have hb : x % 2 + y % 2 ≤ 1 + (x % 2 &&& y % 2) := by
      rcases Nat.mod_two_eq_zero_or_one x with a | a <;> rcases Nat.mod_two_eq_zero_or_one y with b | b <;> rw [a, b] <;> decide
    omega

theorem cnt_meet (n s t : Nat) : cnt n s + cnt n t ≤ n + cnt n (s &&& t) := by
  unfold cnt
  have e1 : (s &&& t) / 2 ^ 1 = (s / 2 ^ 1) &&& (t / 2 ^ 1) := Nat.and_div_two_pow
  rw [Nat.pow_one] at e1
  rw [e1]
  exact pcn_meet n _ _

theorem pcn_some (n : Nat) : ∀ x, 1 ≤ pcn n x → ∃ i, i < n ∧ x / 2 ^ i % 2 = 1 := by
  induction n with
  | zero => intro x h; simp [pcn] at h
  | succ n ih =>
    intro x h
    simp only [pcn] at h
    by_cases b : x % 2 = 1
    · exact ⟨0, by omega, by simpa using b⟩
    · obtain ⟨i, hi, e⟩ := ih (x / 2) (by omega)
      refine ⟨i + 1, by omega, ?_⟩
      rw [Nat.pow_succ, Nat.mul_comm, ← Nat.div_div_eq_div_mul]
      exact e

theorem cnt_some (n s : Nat) (h : 1 ≤ cnt n s) : ∃ i, 1 ≤ i ∧ i ≤ n ∧ s / 2 ^ i % 2 = 1 := by
  obtain ⟨i, hi, e⟩ := pcn_some n _ h
  refine ⟨i + 1, by omega, by omega, ?_⟩
  rw [Nat.pow_succ, Nat.mul_comm, ← Nat.div_div_eq_div_mul]
  exact e

/-- Is the number i in the set s? -/
def hasB (s i : Nat) : Bool := decide (1 ≤ i ∧ i ≤ 63 ∧ s / 2 ^ i % 2 = 1)

theorem bit_is (s i : Nat) (hs : s < 18446744073709551616) (hi : i ≤ 63) : Go.bits .and .u64 (shr .u64 s i) 1 = ((s / 2 ^ i % 2 : Nat) : Int) := by
  unfold shr
  rw [show min ((i : Int)).toNat IntKind.u64.bits = i from by
    have : IntKind.u64.bits = 64 := rfl
    rw [this]
    omega]
  have hc : ((s : Int) / 2 ^ i) = ((s / 2 ^ i : Nat) : Int) := by simp
  have hl : s / 2 ^ i < 18446744073709551616 := Nat.lt_of_le_of_lt (Nat.div_le_self _ _) hs
  have e := u64_and_nat (s / 2 ^ i) 1 hl (by omega)
  rw [show ((1 : Nat) : Int) = 1 from rfl] at e
  rw [hc, e, nat_mask1]

/-- The numbers from i on, d of them, that p lets by. -/
def lf (p : Nat → Bool) : Nat → Nat → List Int
  | 0, _ => []
  | d + 1, i => if p i then (i : Int) :: lf p d (i + 1) else lf p d (i + 1)

theorem lf_len (p : Nat → Bool) (d : Nat) : ∀ i, (lf p d i).length ≤ d := by
  induction d with
  | zero => intro i; simp [lf]
  | succ d ih =>
    intro i
    have := ih (i + 1)
    simp only [lf]
    split <;> simp <;> omega

theorem lf_head (p : Nat → Bool) (d : Nat) : ∀ i j, i ≤ j → j < i + d → p j = true → ∃ (m : Nat) (t : List Int), lf p d i = (m : Int) :: t ∧ i ≤ m ∧ m ≤ j ∧ p m = true := by
  induction d with
  | zero => intro i j h1 h2; omega
  | succ d ih =>
    intro i j h1 h2 hp
    simp only [lf]
    by_cases b : p i = true
    · rw [if_pos b]
      exact ⟨i, _, rfl, Nat.le_refl _, h1, b⟩
    · rw [if_neg b]
      have : i ≠ j := fun e => b (e ▸ hp)
      obtain ⟨m, t, e, a, c, g⟩ := ih (i + 1) j (by omega) (by omega) hp
      exact ⟨m, t, e, by omega, c, g⟩

end Go.Proofs.Ytjbipghbhhkgcaa.Pop
