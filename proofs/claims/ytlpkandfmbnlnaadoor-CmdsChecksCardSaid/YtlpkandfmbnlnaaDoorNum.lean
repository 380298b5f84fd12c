/- Plain arithmetic: a number as bytes, the greatest first, and back. No program in sight. -/
import Derived.Laws.BitsLemmas
import Derived.Laws.Bits64
set_option linter.unusedVariables false
namespace Go.Proofs.YtlpkandfmbnlnaaDoor.Num
open Go

/-- The k lowest bytes of n, the greatest first. -/
def be : Nat → Nat → List Int
  | 0, _ => []
  | k + 1, n => ((n / 256 ^ k % 256 : Nat) : Int) :: be k n
/-- The number that bytes are, in 64 bits. -/
def num (l : List Int) : Int := l.foldl (fun n c => (n * 256 + c) % 18446744073709551616) 0
/-- .. of any width. -/
def nv (l : List Int) : Nat := l.foldl (fun n c => n * 256 + c.toNat) 0
def Bytes (l : List Int) : Prop := ∀ x, x ∈ l → 0 ≤ x ∧ x < 256

theorem be_len (k n : Nat) : (be k n).length = k := by
  induction k with
  | zero => rfl
  | succ k ih => simp [be, ih]
theorem be_bytes (k n : Nat) : Bytes (be k n) := by
  induction k with
  | zero => intro x hx; simp [be] at hx
  | succ k ih =>
    intro x hx
    simp only [be, List.mem_cons] at hx
    rcases hx with rfl | hx
    · constructor <;> omega
    · exact ih x hx
theorem be_cons (k n : Nat) : be (k + 1) n = ((n / 256 ^ k % 256 : Nat) : Int) :: be k n := rfl
theorem be_mod (k n : Nat) : be k (n % 256 ^ k) = be k n := by
  have : ∀ j, j ≤ k → be j (n % 256 ^ k) = be j n := by
    intro j
    induction j with
    | zero => intro _; rfl
    | succ j ih =>
      intro hj
      rw [be_cons, be_cons, ih (by omega)]
      congr 2
      have e : (256 : Nat) ^ k = 256 ^ j * 256 ^ (k - j) := by rw [← Nat.pow_add]; congr 1; omega
      have e2 : (256 : Nat) ^ (k - j) = 256 * 256 ^ (k - j - 1) := by
        rw [← Nat.pow_succ']; congr 1; omega
      rw [e, Nat.mod_mul_right_div_self, e2, Nat.mod_mul_right_mod]
  exact this k (Nat.le_refl _)
/-- One byte more behind. -/
theorem be_snoc (k n : Nat) : be (k + 1) n = be k (n / 256) ++ [((n % 256 : Nat) : Int)] := by
  induction k generalizing n with
  | zero => simp [be]
  | succ k ih =>
    rw [be_cons, ih, be_cons, List.cons_append]
    congr 3
    rw [Nat.div_div_eq_div_mul, Nat.pow_succ']

theorem nv_snoc (l : List Int) (x : Int) : nv (l ++ [x]) = nv l * 256 + x.toNat := by simp [nv]
theorem num_snoc (l : List Int) (x : Int) : num (l ++ [x]) = (num l * 256 + x) % 18446744073709551616 := by simp [num]
theorem snoc_ind {P : List Int → Prop} (h0 : P []) (h1 : ∀ l x, P l → P (l ++ [x])) (l : List Int) : P l := by
  have : ∀ r : List Int, P r.reverse := by
    intro r
    induction r with
    | nil => simpa using h0
    | cons a r ih => simpa using h1 _ a ih
  simpa using this l.reverse
theorem Bytes.left {l r : List Int} (h : Bytes (l ++ r)) : Bytes l := fun x hx => h x (by simp [hx])
theorem Bytes.right {l r : List Int} (h : Bytes (l ++ r)) : Bytes r := fun x hx => h x (by simp [hx])
theorem Bytes.append {l r : List Int} (h : Bytes l) (k : Bytes r) : Bytes (l ++ r) := fun x hx => by
  rcases List.mem_append.1 hx with e | e
  · exact h x e
  · exact k x e
theorem Bytes.take {l : List Int} (h : Bytes l) (n : Nat) : Bytes (l.take n) := fun x hx => h x (List.mem_of_mem_take hx)
theorem Bytes.drop {l : List Int} (h : Bytes l) (n : Nat) : Bytes (l.drop n) := fun x hx => h x (List.mem_of_mem_drop hx)
theorem Bytes.getD {l : List Int} (h : Bytes l) (n : Nat) : 0 ≤ l.getD n 0 ∧ l.getD n 0 < 256 := by
  by_cases hn : n < l.length
  · have : l.getD n 0 ∈ l := by simp [List.getD, hn]
    exact h _ this
  · simp [List.getD, Nat.le_of_not_lt hn]
theorem nv_lt (l : List Int) (h : Bytes l) : nv l < 256 ^ l.length := by
  induction l using snoc_ind with
  | h0 => simp [nv]
  | h1 l x ih =>
    have h1 := ih h.left
    have h2 := h x (by simp)
    rw [nv_snoc, List.length_append, List.length_singleton, Nat.pow_succ]
    omega
theorem num_nv (l : List Int) (h : Bytes l) : num l = ((nv l % 18446744073709551616 : Nat) : Int) := by
  induction l using snoc_ind with
  | h0 => simp [nv, num]
  | h1 l x ih =>
    have h1 := ih h.left
    have h2 := h x (by simp)
    rw [nv_snoc, num_snoc, h1]
    omega
theorem num_range (l : List Int) (h : Bytes l) : 0 ≤ num l ∧ num l < 18446744073709551616 := by
  rw [num_nv l h]
  omega
theorem num_eq (l : List Int) (h : Bytes l) (hl : l.length ≤ 8) : num l = ((nv l : Nat) : Int) := by
  rw [num_nv l h]
  have h1 := nv_lt l h
  have h2 : 256 ^ l.length ≤ 256 ^ 8 := Nat.pow_le_pow_right (by decide) hl
  have h3 : (256 : Nat) ^ 8 = 18446744073709551616 := by decide
  rw [Nat.mod_eq_of_lt (by omega)]
theorem nv_be (k n : Nat) : nv (be k n) = n % 256 ^ k := by
  induction k generalizing n with
  | zero => simp [nv, be, Nat.mod_one]
  | succ k ih =>
    rw [be_snoc, nv_snoc, ih, Nat.pow_succ', Nat.mod_mul]
    have : (((n % 256 : Nat) : Int)).toNat = n % 256 := by omega
    rw [this]
    omega
theorem be_nv (l : List Int) (h : Bytes l) : be l.length (nv l) = l := by
  induction l using snoc_ind with
  | h0 => rfl
  | h1 l x ih =>
    have h2 := h x (by simp)
    rw [List.length_append, List.length_singleton, be_snoc, nv_snoc]
    have e1 : (nv l * 256 + x.toNat) / 256 = nv l := by omega
    have e2 : (((nv l * 256 + x.toNat) % 256 : Nat) : Int) = x := by omega
    rw [e1, e2, ih h.left]
theorem num_be (k n : Nat) (hk : k ≤ 8) : num (be k n) = ((n % 256 ^ k : Nat) : Int) := by
  rw [num_eq _ (be_bytes k n) (by rw [be_len]; exact hk), nv_be]
theorem be_num (l : List Int) (h : Bytes l) (hl : l.length ≤ 8) : be l.length (num l).toNat = l := by
  rw [num_eq l h hl]
  exact be_nv l h
theorem pow_width (k : Nat) : (256 : Nat) ^ k = 2 ^ (8 * k) := by
  rw [Nat.pow_mul]

theorem byte_at (n j : Nat) : ((n : Int) / 2 ^ (8 * j) % 256) = ((n / 256 ^ j % 256 : Nat) : Int) := by
  rw [pow_width]
  simp
/-- One more byte ahead of zeros' end. -/
theorem set_be (k j n : Nat) (hj : j < k) : (List.replicate (k - j) 0 ++ be j n).set (k - 1 - j) ((n : Int) / 2 ^ (8 * j) % 256) = List.replicate (k - (j + 1)) 0 ++ be (j + 1) n := by
  rw [byte_at, be_cons]
  have e1 : k - j = (k - (j + 1)) + 1 := by omega
  have e2 : k - 1 - j = k - (j + 1) := by omega
  rw [e1, e2, List.replicate_succ', List.append_assoc, List.set_append_right _ _ (by simp)]
  simp

/-! ### Go's words -/
theorem w64 (n : Int) : IntKind.u64.wrap n = n % 18446744073709551616 := IntKind.wrap_u64 n
theorem i64_in (n : Int) (h0 : -9223372036854775808 ≤ n) (h1 : n < 9223372036854775808) : IntKind.i64.wrap n = n := by rw [IntKind.wrap_i64]; omega
theorem wraps_u64 (n : Int) (h₀ : 0 ≤ n) (h₁ : n < 2 ^ 64) : IntKind.u64.wrap n = n := by rw [IntKind.wrap_u64]; omega
/-- n<<8 | c -/
theorem or_shl (n c : Int) (h0 : 0 ≤ c) (h1 : c < 256) : bits .or .u64 (IntKind.u64.wrap (n * 256)) c = (n * 256 + c) % 18446744073709551616 := by
  rw [bits_join .u64 64 (by decide) wraps_u64 8 (IntKind.u64.wrap (n * 256)) c (by rw [w64]; omega) (by rw [w64]; omega) (by rw [w64]; omega) h0 (by omega) (by omega), w64]
  omega

end Go.Proofs.YtlpkandfmbnlnaaDoor.Num
