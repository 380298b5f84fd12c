/- Plain arithmetic: how many bits of a number are set, counted by sums of ever wider fields; no program in sight. -/
import Derived.Laws.BitsAllLaws
set_option linter.unusedVariables false
namespace Go.Proofs.Ytjbipghbhhkgcaa.Pop

/-- How many of the lowest n bits of x are set. -/
def pcn : Nat → Nat → Nat
  | 0, _ => 0
  | n + 1, x => x % 2 + pcn n (x / 2)

theorem pcn_le (n : Nat) : ∀ x, pcn n x ≤ n := by
  induction n with
  | zero => intro x; simp [pcn]
  | succ n ih => intro x; have := ih (x / 2); simp only [pcn]; omega

theorem pcn_add (m n : Nat) : ∀ x, pcn (m + n) x = pcn m x + pcn n (x / 2 ^ m) := by
  induction m with
  | zero => intro x; simp [pcn]
  | succ m ih =>
    intro x
    rw [show m + 1 + n = (m + n) + 1 from by omega]
    simp only [pcn]
    rw [ih, Nat.div_div_eq_div_mul, Nat.pow_succ, Nat.mul_comm 2 (2 ^ m)]
    omega

theorem pcn_zero (n : Nat) : pcn n 0 = 0 := by
  induction n with
  | zero => rfl
  | succ n ih => simp [pcn, ih]

theorem pcn_mod (n : Nat) : ∀ x, pcn n (x % 2 ^ n) = pcn n x := by
  induction n with
  | zero => intro x; rfl
  | succ n ih =>
    intro x
    simp only [pcn]
    have h1 : x % 2 ^ (n + 1) % 2 = x % 2 := Nat.mod_mod_of_dvd _ ⟨2 ^ n, by rw [Nat.pow_succ, Nat.mul_comm]⟩
    have h2 : x % 2 ^ (n + 1) / 2 = x / 2 % 2 ^ n := by
      rw [Nat.pow_succ, Nat.mul_comm, Nat.mod_mul_right_div_self]
    rw [h1, h2, ih]

theorem pcn8_mod (x : Nat) : pcn 8 (x % 256) = pcn 8 x := pcn_mod 8 x

theorem and_split (a r m s : Nat) (hr : r < 256) (hs : s < 256) : (256 * a + r) &&& (256 * m + s) = 256 * (a &&& m) + (r &&& s) := by
  have e1 : ((256 * a + r) &&& (256 * m + s)) / 2 ^ 8 = ((256 * a + r) / 2 ^ 8) &&& ((256 * m + s) / 2 ^ 8) := Nat.and_div_two_pow
  have e2 : ((256 * a + r) &&& (256 * m + s)) % 2 ^ 8 = ((256 * a + r) % 2 ^ 8) &&& ((256 * m + s) % 2 ^ 8) := Nat.and_mod_two_pow
  have f1 : (256 * a + r) / 2 ^ 8 = a := by omega
  have f2 : (256 * m + s) / 2 ^ 8 = m := by omega
  have f3 : (256 * a + r) % 2 ^ 8 = r := by omega
  have f4 : (256 * m + s) % 2 ^ 8 = s := by omega
  rw [f1, f2] at e1
  rw [f3, f4] at e2
  have := Nat.div_add_mod ((256 * a + r) &&& (256 * m + s)) (2 ^ 8)
  rw [e1, e2] at this
  omega

/-- A byte c, n times. -/
def rep (c : Nat) : Nat → Nat
  | 0 => 0
  | n + 1 => 256 * rep c n + c

def s1 (m x : Nat) : Nat := (x / 2 &&& m) + (x &&& m)
def s2 (m x : Nat) : Nat := (x / 4 &&& m) + (x &&& m)
def s3 (m x : Nat) : Nat := (x / 16 + x) &&& m

theorem b1 : ∀ r < 256, ∀ t < 2, (128 * t + r / 2) &&& 85 = (r / 2) &&& 85 := by decide +kernel
theorem b2 : ∀ r < 256, ∀ t < 4, (64 * t + r / 4) &&& 51 = (r / 4) &&& 51 := by decide +kernel
theorem b1lt : ∀ r < 256, s1 85 r < 256 := by decide +kernel
theorem b2lt : ∀ r < 256, s2 51 (s1 85 r) < 256 ∧ s2 51 (s1 85 r) % 16 ≤ 4 ∧ s2 51 (s1 85 r) / 16 ≤ 4 := by decide +kernel
theorem b3 : ∀ r < 256, s3 15 (s2 51 (s1 85 r)) = pcn 8 r := by decide +kernel

theorem s1_split (a r m : Nat) (hr : r < 256) : s1 (256 * m + 85) (256 * a + r) = 256 * s1 m a + s1 85 r := by
  unfold s1
  have e : (256 * a + r) / 2 = 256 * (a / 2) + (128 * (a % 2) + r / 2) := by omega
  rw [e, and_split (a / 2) (128 * (a % 2) + r / 2) m 85 (by omega) (by omega), and_split a r m 85 hr (by omega), b1 r hr (a % 2) (by omega)]
  omega

theorem s2_split (a r m : Nat) (hr : r < 256) : s2 (256 * m + 51) (256 * a + r) = 256 * s2 m a + s2 51 r := by
  unfold s2
  have e : (256 * a + r) / 4 = 256 * (a / 4) + (64 * (a % 4) + r / 4) := by omega
  rw [e, and_split (a / 4) (64 * (a % 4) + r / 4) m 51 (by omega) (by omega), and_split a r m 51 hr (by omega), b2 r hr (a % 4) (by omega)]
  omega

theorem s3_split (a r m : Nat) (ha : a % 16 ≤ 4) (h1 : r % 16 ≤ 4) (h2 : r / 16 ≤ 4) : s3 (256 * m + 15) (256 * a + r) = 256 * s3 m a + s3 15 r := by
  unfold s3
  have e : (256 * a + r) / 16 + (256 * a + r) = 256 * (a / 16 + a) + (16 * (a % 16) + (r / 16 + r)) := by omega
  rw [e, and_split (a / 16 + a) (16 * (a % 16) + (r / 16 + r)) m 15 (by omega) (by omega)]
  have f : (16 * (a % 16) + (r / 16 + r)) &&& 15 = (r / 16 + r) &&& 15 := by
    rw [nat_mask4, nat_mask4]
    omega
  rw [f]

theorem low_le (n : Nat) : ∀ x, s2 (rep 51 n) (s1 (rep 85 n) x) % 16 ≤ 4 := by
  intro x
  cases n with
  | zero => simp [rep, s1, s2]
  | succ n =>
    have hx : x = 256 * (x / 256) + x % 256 := by omega
    have hr : x % 256 < 256 := by omega
    rw [hx]
    simp only [rep]
    rw [s1_split _ _ _ hr, s2_split _ _ _ (b1lt _ hr)]
    have := b2lt _ hr
    omega

/-- The bytes' counts, side by side. -/
def pack : Nat → Nat → Nat
  | 0, _ => 0
  | n + 1, x => 256 * pack n (x / 256) + pcn 8 (x % 256)

theorem fields (n : Nat) : ∀ x, s3 (rep 15 n) (s2 (rep 51 n) (s1 (rep 85 n) x)) = pack n x := by
  induction n with
  | zero => intro x; simp [rep, s3, pack]
  | succ n ih =>
    intro x
    have hx : x = 256 * (x / 256) + x % 256 := by omega
    have hr : x % 256 < 256 := by omega
    have g := b2lt _ hr
    conv => lhs; rw [hx]
    simp only [rep, pack]
    rw [s1_split _ _ _ hr, s2_split _ _ _ (b1lt _ hr), s3_split _ _ _ (low_le n _) g.2.1 g.2.2, ih, b3 _ hr]

theorem pack8 (x : Nat) : pack 8 x = pcn 8 (x % 256) + 256 * pcn 8 (x / 256 % 256) + 65536 * pcn 8 (x / 65536 % 256) + 16777216 * pcn 8 (x / 16777216 % 256) + 4294967296 * pcn 8 (x / 4294967296 % 256)
    + 1099511627776 * pcn 8 (x / 1099511627776 % 256) + 281474976710656 * pcn 8 (x / 281474976710656 % 256) + 72057594037927936 * pcn 8 (x / 72057594037927936 % 256) := by
  simp only [pack, Nat.div_div_eq_div_mul, Nat.reduceMul]
  omega

theorem pcn64 (x : Nat) : pcn 64 x = pcn 8 (x % 256) + pcn 8 (x / 256 % 256) + pcn 8 (x / 65536 % 256) + pcn 8 (x / 16777216 % 256) + pcn 8 (x / 4294967296 % 256)
    + pcn 8 (x / 1099511627776 % 256) + pcn 8 (x / 281474976710656 % 256) + pcn 8 (x / 72057594037927936 % 256) := by
  rw [show (64 : Nat) = 8 + (8 + (8 + (8 + (8 + (8 + (8 + 8)))))) from rfl]
  rw [pcn_add 8, pcn_add 8, pcn_add 8, pcn_add 8, pcn_add 8, pcn_add 8, pcn_add 8]
  simp only [Nat.div_div_eq_div_mul, pcn8_mod, Nat.reduceMul, Nat.reducePow]
  omega

/-- The last three sums. -/
def s6 (y : Nat) : Nat := (y + y / 256) + (y + y / 256) / 65536 + ((y + y / 256) + (y + y / 256) / 65536) / 4294967296

theorem q (d t : Nat) (h : d < 256) : (d + 256 * t) / 256 = t := by omega

theorem s6_sum (c0 c1 c2 c3 c4 c5 c6 c7 : Nat) (h0 : c0 ≤ 8) (h1 : c1 ≤ 8) (h2 : c2 ≤ 8) (h3 : c3 ≤ 8) (h4 : c4 ≤ 8) (h5 : c5 ≤ 8) (h6 : c6 ≤ 8) (h7 : c7 ≤ 8) (y : Nat)
    (hy : y = c0 + 256 * c1 + 65536 * c2 + 16777216 * c3 + 4294967296 * c4 + 1099511627776 * c5 + 281474976710656 * c6 + 72057594037927936 * c7) :
    y < 1152921504606846976 ∧ s6 y % 128 = c0 + c1 + c2 + c3 + c4 + c5 + c6 + c7 := by
  have f0 : y = c0 + 256 * (c1 + 256 * (c2 + 256 * (c3 + 256 * (c4 + 256 * (c5 + 256 * (c6 + 256 * c7)))))) := by omega
  have e1 : y / 256 = c1 + 256 * (c2 + 256 * (c3 + 256 * (c4 + 256 * (c5 + 256 * (c6 + 256 * c7))))) := by rw [f0, q _ _ (by omega)]
  have e2 : y + y / 256 = (c0 + c1) + 256 * ((c1 + c2) + 256 * ((c2 + c3) + 256 * ((c3 + c4) + 256 * ((c4 + c5) + 256 * ((c5 + c6) + 256 * ((c6 + c7) + 256 * c7)))))) := by rw [e1, f0]; omega
  have e3 : (y + y / 256) / 65536 = (c2 + c3) + 256 * ((c3 + c4) + 256 * ((c4 + c5) + 256 * ((c5 + c6) + 256 * ((c6 + c7) + 256 * c7)))) := by
    rw [e2, show (65536 : Nat) = 256 * 256 from rfl, ← Nat.div_div_eq_div_mul, q _ _ (by omega), q _ _ (by omega)]
  have e4 : (y + y / 256) + (y + y / 256) / 65536 = (c0 + c1 + c2 + c3) + 256 * ((c1 + c2 + c3 + c4) + 256 * ((c2 + c3 + c4 + c5) + 256 * ((c3 + c4 + c5 + c6) + 256 * ((c4 + c5 + c6 + c7) + 256 * ((c5 + c6 + c7) + 256 * ((c6 + c7) + 256 * c7)))))) := by rw [e3, e2]; omega
  have e5 : ((y + y / 256) + (y + y / 256) / 65536) / 4294967296 = (c4 + c5 + c6 + c7) + 256 * ((c5 + c6 + c7) + 256 * ((c6 + c7) + 256 * c7)) := by
    rw [e4, show (4294967296 : Nat) = 256 * 256 * 256 * 256 from rfl, ← Nat.div_div_eq_div_mul, ← Nat.div_div_eq_div_mul, ← Nat.div_div_eq_div_mul, q _ _ (by omega), q _ _ (by omega), q _ _ (by omega), q _ _ (by omega)]
  refine ⟨by clear f0 e1 e2 e3 e4 e5; omega, ?_⟩
  unfold s6
  rw [e5, e4]
  clear f0 e1 e2 e3 e4 e5 hy
  omega

theorem ones (x : Nat) : s3 (rep 15 8) (s2 (rep 51 8) (s1 (rep 85 8) x)) < 1152921504606846976 ∧ s6 (s3 (rep 15 8) (s2 (rep 51 8) (s1 (rep 85 8) x))) % 128 = pcn 64 x := by
  rw [fields, pcn64]
  exact s6_sum _ _ _ _ _ _ _ _ (pcn_le 8 _) (pcn_le 8 _) (pcn_le 8 _) (pcn_le 8 _) (pcn_le 8 _) (pcn_le 8 _) (pcn_le 8 _) (pcn_le 8 _) _ (pack8 x)

end Go.Proofs.Ytjbipghbhhkgcaa.Pop
