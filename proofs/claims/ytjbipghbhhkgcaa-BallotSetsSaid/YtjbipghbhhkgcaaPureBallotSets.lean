/- Which numbers are in any set, and with others, whether they are enough of any many, and who is in two, is as the chapter says: for all numbers of their kinds and every list (of more than 40 numbers the law asks its example alone). No condition. -/
import Derived.Test.YtjbipghbhhkgcaaSetsWalk
import Derived.Test.YtjbipghbhhkgcaaBit
import Derived.OpenShut
set_option linter.unusedVariables false
set_option linter.unusedSimpArgs false
namespace Go.Proofs.Ytjbipghbhhkgcaa.Pure
open Go.RowKit Go.Proofs.Ytjbipghbhhkgcaa.PBallotSets Go.Proofs.YtjbipghbhhkgcaaW.PrintWords Go.Proofs.YtjbipghbhhkgcaaW.PrintLast Go.Proofs.YtjbipghbhhkgcaaW.PrintMore Go.Proofs.Ytjbipghbhhkgcaa.Pop

theorem bs_ones (a : Int) : bits_OnesCount64.f a = some (ones64 a) := rfl

theorem bs_count (s : Nat) (h : s < 18446744073709551616) : ballot_Count.f s = some ((cnt 63 s : Nat) : Int) := by
  unfold ballot_Count.f
  rw [bs_ones, count_is s h]
  rfl

theorem bs_quorum (n : Int) (h1 : 1 ≤ n) (h2 : n ≤ 9223372036854775807) : ballot_Quorum.f n = some (n / 2 + 1) := by
  unfold ballot_Quorum.f
  rw [if_neg (show ¬ n < 1 by omega), Int.tdiv_eq_ediv_of_nonneg (by omega), i64_in (n / 2) (by omega) (by omega), i64_in _ (by omega) (by omega)]

theorem bs_quorum_same (n : Int) : catenaryref07_Quorum.f n = ballot_Quorum.f n := rfl

theorem bs_enough (s : Nat) (n : Int) (hs : s < 18446744073709551616) (h2 : n ≤ 9223372036854775807) :
    ballot_Enough.f s n = some (decide (1 ≤ n ∧ n / 2 + 1 ≤ ((cnt (min n.toNat 63) s : Nat) : Int))) := by
  unfold ballot_Enough.f
  by_cases h1 : n < 1
  · rw [if_pos h1]
    simp
    omega
  · rw [if_neg h1]
    by_cases g : n < 63
    · obtain ⟨m, rfl⟩ := Int.eq_ofNat_of_zero_le (show 0 ≤ n by omega)
      rw [if_pos g, i64_in ((m : Int) + 1) (by omega) (by omega), if_pos (show (0 : Int) ≤ (m : Int) + 1 by omega), cut_is m s hs (by omega),
        bs_count _ (Nat.lt_of_le_of_lt (Nat.mod_le _ _) hs), cnt_cut m s (by omega), bs_quorum _ (by omega) h2]
      simp only [Option.bind_some]
      rw [show min ((m : Int)).toNat 63 = m by omega]
      congr 1
      rw [decide_eq_decide]
      omega
    · rw [if_neg g, bs_count _ hs, bs_quorum _ (by omega) h2]
      simp only [Option.bind_some]
      rw [show min n.toNat 63 = 63 by omega]
      congr 1
      rw [decide_eq_decide]
      omega

/-- Is any number in the set s? -/
def hasI (s : Nat) (n : Int) : Bool := decide (1 ≤ n ∧ n ≤ 63 ∧ s / 2 ^ n.toNat % 2 = 1)
theorem hasI_nat (s i : Nat) : hasI s i = hasB s i := by
  unfold hasI hasB
  rw [decide_eq_decide, Int.toNat_natCast]
  omega

theorem bs_has (s : Nat) (n : Int) (hs : s < 18446744073709551616) : ballot_Has.f s n = some (hasI s n) := by
  unfold ballot_Has.f ballot_member.f
  by_cases a : n ≥ 1
  · obtain ⟨i, rfl⟩ := Int.eq_ofNat_of_zero_le (show 0 ≤ n by omega)
    rw [if_pos a, hasI_nat]
    unfold hasB
    by_cases b : (i : Int) ≤ 63
    · simp only [b, decide_true, Option.bind_some, if_true]
      rw [if_pos (show (0 : Int) ≤ i by omega), bit_is s i hs (by omega)]
      congr 1
      generalize s / 2 ^ i % 2 = q
      rw [Bool.eq_iff_iff, beq_iff_eq, decide_eq_true_iff]
      omega
    · simp only [b, decide_false, Option.bind_some]
      rw [if_neg (by decide)]
      congr 1
      symm
      rw [decide_eq_false_iff_not]
      omega
  · rw [if_neg a]
    unfold hasI
    simp only [Option.bind_some]
    rw [if_neg (by decide)]
    congr 1
    symm
    rw [decide_eq_false_iff_not]
    omega

theorem bs_rhas0 (i : Nat) (hi : i ≤ 63) (d : Nat) : ∀ (s k j : Nat), s < 18446744073709551616 → j + d = i → d < k → catenaryref07_Has.l0 k s i j = some (decide (s / 2 ^ d % 2 = 1)) := by
  induction d with
  | zero =>
    intro s k j hs h1 h2
    obtain ⟨k, rfl⟩ : ∃ m, k = m + 1 := ⟨k - 1, by omega⟩
    simp only [catenaryref07_Has.l0]
    rw [if_neg (show ¬ (j : Int) < i by omega), Int.tmod_eq_emod_of_nonneg (by omega), Nat.pow_zero, Nat.div_one]
    congr 1
    rw [Bool.eq_iff_iff, beq_iff_eq, decide_eq_true_iff]
    omega
  | succ d ih =>
    intro s k j hs h1 h2
    obtain ⟨k, rfl⟩ : ∃ m, k = m + 1 := ⟨k - 1, by omega⟩
    simp only [catenaryref07_Has.l0]
    rw [if_pos (show (j : Int) < i by omega), Int.tdiv_eq_ediv_of_nonneg (by omega), show (s : Int) / 2 = ((s / 2 : Nat) : Int) by omega, w64_in _ (by omega) (by omega),
      i64_in ((j : Int) + 1) (by omega) (by omega), show (j : Int) + 1 = ((j + 1 : Nat) : Int) by omega, ih (s / 2) k (j + 1) (by omega) (by omega) (by omega)]
    rw [Nat.div_div_eq_div_mul, Nat.pow_succ, Nat.mul_comm 2]

theorem bs_rhas (s : Nat) (n : Int) (hs : s < 18446744073709551616) (k : Nat) (hk : 66 ≤ k) : catenaryref07_Has.f k s n = some (hasI s n) := by
  obtain ⟨k, rfl⟩ : ∃ m, k = m + 1 := ⟨k - 1, by omega⟩
  unfold catenaryref07_Has.f hasI
  by_cases a : n < 1
  · rw [if_pos a]
    simp only [catenaryref07_Has.j0]
    rw [if_pos trivial]
    congr 1
    symm
    rw [decide_eq_false_iff_not]
    omega
  · rw [if_neg a]
    obtain ⟨i, rfl⟩ := Int.eq_ofNat_of_zero_le (show 0 ≤ n by omega)
    by_cases b : (i : Int) > 63
    · simp only [catenaryref07_Has.j0, b, decide_true, if_true]
      congr 1
      symm
      rw [decide_eq_false_iff_not]
      omega
    · simp only [catenaryref07_Has.j0, b, decide_false]
      rw [if_neg (by decide), show (0 : Int) = ((0 : Nat) : Int) from rfl, bs_rhas0 i (by omega) i s k 0 hs (by omega) (by omega), Int.toNat_natCast]
      congr 1
      rw [decide_eq_decide]
      omega

theorem bs_l0 (s : Nat) (hs : s < 18446744073709551616) (d : Nat) : ∀ (k i : Nat) (out : List Int), i + d = 64 → d < k → out.length ≤ i → ballot_List.l0 k s out i = some (out ++ lf (hasB s) d i) := by
  induction d with
  | zero =>
    intro k i out h1 h2 h3
    obtain ⟨k, rfl⟩ : ∃ m, k = m + 1 := ⟨k - 1, by omega⟩
    simp only [ballot_List.l0]
    rw [if_neg (show ¬ (i : Int) < 64 by omega)]
    simp [lf]
  | succ d ih =>
    intro k i out h1 h2 h3
    obtain ⟨k, rfl⟩ : ∃ m, k = m + 1 := ⟨k - 1, by omega⟩
    simp only [ballot_List.l0]
    rw [if_pos (show (i : Int) < 64 by omega), bs_has s i hs, hasI_nat, i64_in ((i : Int) + 1) (by omega) (by omega), show (i : Int) + 1 = ((i + 1 : Nat) : Int) by omega]
    simp only [Option.bind_some, lf]
    by_cases b : hasB s i = true
    · rw [if_pos b, if_pos b, if_pos (by omega), ih k (i + 1) (out ++ [(i : Int)]) (by omega) (by omega) (by simp; omega)]
      simp
    · rw [if_neg b, if_neg b, ih k (i + 1) out (by omega) (by omega) (by omega)]

theorem lf_from1 (s : Nat) : lf (hasB s) 64 0 = lf (hasB s) 63 1 := by
  have : hasB s 0 = false := by unfold hasB; simp
  simp only [lf, this]
  rfl

theorem bs_list (s k : Nat) (hs : s < 18446744073709551616) (hk : 65 ≤ k) : ballot_List.f k s = some (lf (hasB s) 63 1) := by
  unfold ballot_List.f
  have := bs_l0 s hs 64 k 0 [] (by omega) (by omega) (by simp)
  rw [show ((0 : Nat) : Int) = 0 from rfl] at this
  rw [this, ← lf_from1]
  rfl

theorem bs_rl0 (s : Nat) (hs : s < 18446744073709551616) (d : Nat) : ∀ (k i : Nat) (out : List Int), i + d = 64 → d + 67 ≤ k → out.length ≤ i → catenaryref07_List.l0 k s out i = some (out ++ lf (hasB s) d i) := by
  induction d with
  | zero =>
    intro k i out h1 h2 h3
    obtain ⟨k, rfl⟩ : ∃ m, k = m + 1 := ⟨k - 1, by omega⟩
    simp only [catenaryref07_List.l0]
    rw [if_neg (show ¬ (i : Int) ≤ 63 by omega)]
    simp [lf]
  | succ d ih =>
    intro k i out h1 h2 h3
    obtain ⟨k, rfl⟩ : ∃ m, k = m + 1 := ⟨k - 1, by omega⟩
    simp only [catenaryref07_List.l0]
    rw [if_pos (show (i : Int) ≤ 63 by omega), bs_rhas s i hs k (by omega), hasI_nat, i64_in ((i : Int) + 1) (by omega) (by omega), show (i : Int) + 1 = ((i + 1 : Nat) : Int) by omega]
    simp only [Option.bind_some, lf]
    by_cases b : hasB s i = true
    · rw [if_pos b, if_pos b, if_pos (by omega), ih k (i + 1) (out ++ [(i : Int)]) (by omega) (by omega) (by simp; omega)]
      simp
    · rw [if_neg b, if_neg b, ih k (i + 1) out (by omega) (by omega) (by omega)]

theorem bs_rlist (s k : Nat) (hs : s < 18446744073709551616) (hk : 130 ≤ k) : catenaryref07_List.f k s = some (lf (hasB s) 63 1) := by
  unfold catenaryref07_List.f
  have := bs_rl0 s hs 63 k 1 [] (by omega) (by omega) (by simp)
  rw [show ((1 : Nat) : Int) = 1 from rfl] at this
  rw [this]
  rfl

theorem bs_lf_count (s : Nat) (d : Nat) : ∀ i, 1 ≤ i → i + d ≤ 64 → (lf (hasB s) d i).length = pcn d (s / 2 ^ i) := by
  induction d with
  | zero => intro i h1 h2; rfl
  | succ d ih =>
    intro i h1 h2
    have e := ih (i + 1) (by omega) (by omega)
    rw [Nat.pow_succ, ← Nat.div_div_eq_div_mul] at e
    simp only [lf, pcn]
    rw [← e]
    by_cases b : hasB s i = true
    · rw [if_pos b]
      have : s / 2 ^ i % 2 = 1 := by unfold hasB at b; simp at b; omega
      simp; omega
    · rw [if_neg b]
      have : s / 2 ^ i % 2 ≠ 1 := fun h => b (by unfold hasB; simp; omega)
      omega

theorem bs_len (s : Nat) : (lf (hasB s) 63 1).length = cnt 63 s := by
  rw [bs_lf_count s 63 1 (by omega) (by omega)]
  rfl

theorem bs_same0 (l : List Int) (hl : l.length < 1000) (d : Nat) : ∀ (k i : Nat), i + d = l.length → d < k → catenaryref04_Same.l0 k l l i = some true := by
  induction d with
  | zero =>
    intro k i h1 h2
    obtain ⟨k, rfl⟩ : ∃ m, k = m + 1 := ⟨k - 1, by omega⟩
    simp only [catenaryref04_Same.l0]
    rw [if_neg (by omega)]
  | succ d ih =>
    intro k i h1 h2
    obtain ⟨k, rfl⟩ : ∃ m, k = m + 1 := ⟨k - 1, by omega⟩
    simp only [catenaryref04_Same.l0]
    rw [if_pos (by omega), if_pos (by omega), if_pos (by omega), if_pos trivial, i64_in ((i : Int) + 1) (by omega) (by omega), show (i : Int) + 1 = ((i + 1 : Nat) : Int) by omega, ih k (i + 1) (by omega) (by omega)]

theorem bs_same (l : List Int) (hl : l.length ≤ 64) (k : Nat) (hk : 65 ≤ k) : catenaryref04_Same.f k l l = some true := by
  unfold catenaryref04_Same.f
  rw [if_pos rfl, show (0 : Int) = ((0 : Nat) : Int) from rfl, bs_same0 l (by omega) l.length k 0 (by omega) (by omega)]

/-! ### Enough, by the reference -/
theorem cnt_succ (n s : Nat) : cnt (n + 1) s = cnt n s + s / 2 ^ (n + 1) % 2 := by
  unfold cnt
  rw [pcn_add n 1]
  simp only [pcn]
  rw [Nat.div_div_eq_div_mul, Nat.pow_succ, Nat.mul_comm 2]
  omega

theorem cnt_small (n s : Nat) : cnt n s ≤ n := pcn_le n _

theorem bs_renough0 (s : Nat) (hs : s < 18446744073709551616) (n : Int) (h1 : 1 ≤ n) (h2 : n ≤ 9223372036854775807) (d : Nat) : ∀ (k i : Nat), i + d = min n.toNat 63 → 2 * d + 70 ≤ k →
    catenaryref07_Enough.l0 k s n (cnt i s : Nat) ((i : Int) + 1) = some (decide (n / 2 + 1 ≤ ((cnt (min n.toNat 63) s : Nat) : Int))) := by
  induction d with
  | zero =>
    intro k i g1 g2
    obtain ⟨k, rfl⟩ : ∃ m, k = m + 1 + 1 := ⟨k - 2, by omega⟩
    have e : catenaryref07_Enough.l0 (k + 1 + 1) s n (cnt i s : Nat) ((i : Int) + 1) = catenaryref07_Enough.j1 (k + 1) s n (cnt i s : Nat) ((i : Int) + 1) false := by
      simp only [catenaryref07_Enough.l0]
      by_cases c : (i : Int) + 1 ≤ 63
      · rw [if_pos c, decide_eq_false (by omega)]
      · rw [if_neg c]
    rw [e]
    simp only [catenaryref07_Enough.j1]
    rw [if_neg (by decide), if_pos (by omega), bs_quorum_same, bs_quorum n h1 h2]
    simp only [Option.bind_some]
    rw [show min n.toNat 63 = i by omega]
  | succ d ih =>
    intro k i g1 g2
    obtain ⟨k, rfl⟩ : ∃ m, k = m + 1 + 1 := ⟨k - 2, by omega⟩
    have e : catenaryref07_Enough.l0 (k + 1 + 1) s n (cnt i s : Nat) ((i : Int) + 1) = catenaryref07_Enough.j1 (k + 1) s n (cnt i s : Nat) ((i : Int) + 1) true := by
      simp only [catenaryref07_Enough.l0]
      rw [if_pos (by omega), decide_eq_true (by omega)]
    rw [e]
    have hc := cnt_small i s
    have hn := cnt_succ i s
    have ih' := ih k (i + 1) (by omega) (by omega)
    rw [show (((i + 1 : Nat) : Int) + 1) = (i : Int) + 1 + 1 by omega] at ih'
    simp only [catenaryref07_Enough.j1]
    rw [if_pos trivial, bs_rhas s ((i : Int) + 1) hs k (by omega), i64_in ((i : Int) + 1 + 1) (by omega) (by omega), i64_in (((cnt i s : Nat) : Int) + 1) (by omega) (by omega)]
    simp only [Option.bind_some]
    have hh : hasI s ((i : Int) + 1) = decide (s / 2 ^ (i + 1) % 2 = 1) := by
      unfold hasI
      rw [decide_eq_decide, show ((i : Int) + 1).toNat = i + 1 by omega]
      omega
    rw [hh]
    by_cases b : s / 2 ^ (i + 1) % 2 = 1
    · rw [decide_eq_true b, if_pos rfl, ← ih', hn, b]
      rfl
    · rw [decide_eq_false b, if_neg (by decide), ← ih', hn, show s / 2 ^ (i + 1) % 2 = 0 by omega]
      rfl

theorem bs_renough (s : Nat) (n : Int) (hs : s < 18446744073709551616) (h2 : n ≤ 9223372036854775807) (k : Nat) (hk : 200 ≤ k) : catenaryref07_Enough.f k s n = ballot_Enough.f s n := by
  rw [bs_enough s n hs h2]
  unfold catenaryref07_Enough.f
  by_cases h1 : 1 ≤ n
  · have := bs_renough0 s hs n h1 h2 (min n.toNat 63) k 0 (by omega) (by omega)
    rw [show cnt 0 s = 0 from rfl, show ((0 : Nat) : Int) = 0 from rfl, show (0 : Int) + 1 = 1 from rfl] at this
    rw [this]
    congr 1
    rw [decide_eq_decide]
    omega
  · obtain ⟨k, rfl⟩ : ∃ m, k = m + 1 + 1 := ⟨k - 2, by omega⟩
    simp only [catenaryref07_Enough.l0]
    rw [if_pos (by decide), decide_eq_false (by omega)]
    simp only [catenaryref07_Enough.j1]
    rw [if_neg (by decide), if_neg (by omega), decide_eq_false (by omega)]

/-! ### Meet -/
theorem bs_hasB_and (s t i : Nat) : hasB (s &&& t) i = (hasB s i && hasB t i) := by
  have e1 : ((s &&& t) / 2 ^ i) = (s / 2 ^ i) &&& (t / 2 ^ i) := Nat.and_div_two_pow
  have e2 : ((s &&& t) / 2 ^ i) % 2 ^ 1 = ((s / 2 ^ i) % 2 ^ 1) &&& ((t / 2 ^ i) % 2 ^ 1) := by rw [e1]; exact Nat.and_mod_two_pow
  rw [Nat.pow_one] at e2
  unfold hasB
  rw [e2]
  rcases Nat.mod_two_eq_zero_or_one (s / 2 ^ i) with a | a <;> rcases Nat.mod_two_eq_zero_or_one (t / 2 ^ i) with b | b <;> rw [a, b] <;> simp

theorem bs_rm0 (s t : Nat) (hs : s < 18446744073709551616) (ht : t < 18446744073709551616) (d : Nat) : ∀ (k i : Nat) (out : List Int), i + d = 64 → d + 67 ≤ k → out.length ≤ i → catenaryref07_Meet.l0 k s t out i = some (out ++ lf (hasB (s &&& t)) d i) := by
  induction d with
  | zero =>
    intro k i out h1 h2 h3
    obtain ⟨k, rfl⟩ : ∃ m, k = m + 1 := ⟨k - 1, by omega⟩
    simp only [catenaryref07_Meet.l0]
    rw [if_neg (show ¬ (i : Int) ≤ 63 by omega)]
    simp [lf]
  | succ d ih =>
    intro k i out h1 h2 h3
    obtain ⟨k, rfl⟩ : ∃ m, k = m + 1 := ⟨k - 1, by omega⟩
    simp only [catenaryref07_Meet.l0]
    rw [if_pos (show (i : Int) ≤ 63 by omega), bs_rhas s i hs k (by omega), bs_rhas t i ht k (by omega), hasI_nat, hasI_nat, i64_in ((i : Int) + 1) (by omega) (by omega), show (i : Int) + 1 = ((i + 1 : Nat) : Int) by omega]
    have hand := bs_hasB_and s t i
    have ihs := fun out => ih k (i + 1) out (by omega) (by omega)
    simp only [Option.bind_some, lf]
    cases ha : hasB s i with
    | false =>
      rw [ha] at hand
      rw [hand]
      simpa using ihs out (by omega)
    | true =>
      cases hb : hasB t i with
      | false =>
        rw [ha, hb] at hand
        rw [hand]
        simpa using ihs out (by omega)
      | true =>
        rw [ha, hb] at hand
        rw [hand, if_pos rfl, if_pos rfl, if_pos (by omega), ihs _ (by simp; omega)]
        simp

theorem bs_meet (s t k : Nat) (hs : s < 18446744073709551616) (ht : t < 18446744073709551616) (hk : 65 ≤ k) : ballot_Meet.f k s t = some (lf (hasB (s &&& t)) 63 1) := by
  unfold ballot_Meet.f
  rw [u64_and_nat s t hs ht, bs_list _ k (Nat.lt_of_le_of_lt Nat.and_le_left hs) hk]
  rfl

theorem bs_rmeet (s t k : Nat) (hs : s < 18446744073709551616) (ht : t < 18446744073709551616) (hk : 130 ≤ k) : catenaryref07_Meet.f k s t = some (lf (hasB (s &&& t)) 63 1) := by
  unfold catenaryref07_Meet.f
  have := bs_rm0 s t hs ht 63 k 1 [] (by omega) (by omega) (by simp)
  rw [show ((1 : Nat) : Int) = 1 from rfl] at this
  rw [this]
  rfl

/-! ### With -/
theorem mem_lf (p : Nat → Bool) (d : Nat) : ∀ i j : Nat, (j : Int) ∈ lf p d i ↔ i ≤ j ∧ j < i + d ∧ p j = true := by
  induction d with
  | zero => intro i j; simp [lf]; omega
  | succ d ih =>
    intro i j
    simp only [lf]
    by_cases b : p i = true
    · rw [if_pos b, List.mem_cons, ih]
      constructor
      · rintro (h | h)
        · have : j = i := by omega
          subst this
          exact ⟨by omega, by omega, b⟩
        · exact ⟨by omega, by omega, h.2.2⟩
      · rintro ⟨h1, h2, h3⟩
        by_cases c : j = i
        · exact .inl (by rw [c])
        · exact .inr ⟨by omega, by omega, h3⟩
    · rw [if_neg b, ih]
      constructor
      · rintro ⟨h1, h2, h3⟩
        exact ⟨by omega, by omega, h3⟩
      · rintro ⟨h1, h2, h3⟩
        have : j ≠ i := fun c => b (c ▸ h3)
        exact ⟨by omega, by omega, h3⟩

/-- The number whose bits below i are those that P lets by. -/
def sp (P : Nat → Bool) : Nat → Nat
  | 0 => 0
  | i + 1 => if P i then sp P i + 2 ^ i else sp P i

theorem sp_lt (P : Nat → Bool) (i : Nat) : sp P i < 2 ^ i := by
  induction i with
  | zero => simp [sp]
  | succ i ih =>
    have hq : 0 < (2 : Nat) ^ i := Nat.two_pow_pos _
    simp only [sp]
    rw [Nat.pow_succ]
    split <;> omega

theorem sp_bit (P : Nat → Bool) (i : Nat) : ∀ j, (sp P i).testBit j = (decide (j < i) && P j) := by
  induction i with
  | zero => intro j; simp [sp]
  | succ i ih =>
    intro j
    have hl := sp_lt P i
    simp only [sp]
    by_cases b : P i = true
    · rw [if_pos b, Nat.add_comm, ← nat_join i (2 ^ i) (sp P i) (by simp) hl, Nat.testBit_or, ih, Nat.testBit_two_pow]
      by_cases c : i = j
      · subst c
        simp [b]
      · simp [c]
        by_cases e : j < i
        · simp [e, show j < i + 1 by omega]
        · simp [e, show ¬ j < i + 1 by omega]
    · rw [if_neg b, ih]
      by_cases c : i = j
      · subst c
        simp [b]
      · by_cases e : j < i
        · simp [e, show j < i + 1 by omega]
        · simp [e, show ¬ j < i + 1 by omega]

/-- The numbers of a list, as bits. -/
def inL (L : List Int) (i : Nat) : Bool := decide (1 ≤ i ∧ (i : Int) ∈ L)

theorem sh1 (i : Nat) (hi : i ≤ 63) : shl .u64 1 (i : Int) = ((2 ^ i : Nat) : Int) := by
  unfold shl
  rw [show min ((i : Int)).toNat IntKind.u64.bits = i from by
    have : IntKind.u64.bits = 64 := rfl
    rw [this]
    omega]
  have hp : (2 : Nat) ^ i ≤ 2 ^ 63 := Nat.pow_le_pow_right (by decide) hi
  have hc : ((2 : Int) ^ i) = ((2 ^ i : Nat) : Int) := by simp
  rw [Int.one_mul, hc]
  generalize (2 : Nat) ^ i = p at hp
  rw [w64_in _ (by omega) (by omega)]

theorem rd_nat (L : List Int) (m : Nat) (h : m < L.length) : rd L (m : Int) = L[m] := by
  unfold rd
  simp [h]

/-- The inner loop of Set at the number i: L[m..] is still to be looked at. -/
theorem bs_set1 (L : List Int) (hL : L.length ≤ 103) (i : Nat) (h1 : 1 ≤ i) (h63 : i ≤ 63) (d : Nat) : ∀ (k m x : Nat), m + d = L.length → d + 67 ≤ k → (x < 2 ^ i ∨ 2 ^ i ≤ x ∧ x < 2 ^ (i + 1)) →
    ∃ k', k = k' + d + 1 ∧ catenaryref07_Set.l1 k L x i m = catenaryref07_Set.l0 k' L ((if x < 2 ^ i ∧ (i : Int) ∈ L.drop m then x + 2 ^ i else x : Nat) : Int) ((i : Int) + 1) := by
  have hp : (2 : Nat) ^ i ≤ 2 ^ 63 := Nat.pow_le_pow_right (by decide) h63
  have hq : 0 < (2 : Nat) ^ i := Nat.two_pow_pos _
  have h2p : (2 : Nat) ^ (i + 1) = 2 * 2 ^ i := by rw [Nat.pow_succ, Nat.mul_comm]
  induction d with
  | zero =>
    intro k m x g1 g2 hx
    obtain ⟨k, rfl⟩ : ∃ m, k = m + 1 := ⟨k - 1, by omega⟩
    refine ⟨k, by omega, ?_⟩
    simp only [catenaryref07_Set.l1]
    rw [if_neg (show ¬ (m : Int) < L.length by omega), i64_in ((i : Int) + 1) (by omega) (by omega), List.drop_eq_nil_of_le (by omega)]
    simp
  | succ d ih =>
    intro k m x g1 g2 hx
    obtain ⟨k, rfl⟩ : ∃ m, k = m + 1 := ⟨k - 1, by omega⟩
    have hm : m < L.length := by omega
    have hdrop : L.drop m = L[m] :: L.drop (m + 1) := List.drop_eq_getElem_cons hm
    have hx64 : x < 18446744073709551616 := by omega
    simp only [catenaryref07_Set.l1]
    rw [if_pos (show (m : Int) < L.length by omega), if_pos (show (0 : Int) ≤ m by omega), rd_nat L m hm, i64_in ((m : Int) + 1) (by omega) (by omega), show (m : Int) + 1 = ((m + 1 : Nat) : Int) by omega,
      bs_rhas x i hx64 k (by omega), hasI_nat]
    simp only [Option.bind_some]
    have hb : hasB x i = decide (2 ^ i ≤ x) := by
      unfold hasB
      rw [decide_eq_decide]
      have hd : x < 2 ^ i → x / 2 ^ i = 0 := Nat.div_eq_of_lt
      have hd1 : 2 ^ i ≤ x → x / 2 ^ i = 1 := fun h => Nat.div_eq_of_lt_le (by omega) (by omega)
      by_cases c : x < 2 ^ i
      · have := hd c; omega
      · have := hd1 (by omega); omega
    by_cases c : L[m] = (i : Int)
    · rw [if_pos c, hb]
      by_cases e : 2 ^ i ≤ x
      · rw [decide_eq_true e, if_pos rfl]
        obtain ⟨k', hk', heq⟩ := ih k (m + 1) x (by omega) (by omega) hx
        refine ⟨k', by omega, ?_⟩
        rw [heq, if_neg (by omega), if_neg (by omega)]
      · rw [decide_eq_false e, if_neg (by decide), if_pos (show (0 : Int) ≤ i by omega), sh1 i h63, w64_in _ (by omega) (by omega), show (x : Int) + ((2 ^ i : Nat) : Int) = ((x + 2 ^ i : Nat) : Int) by omega]
        obtain ⟨k', hk', heq⟩ := ih k (m + 1) (x + 2 ^ i) (by omega) (by omega) (.inr ⟨by omega, by omega⟩)
        refine ⟨k', by omega, ?_⟩
        rw [heq, if_neg (by omega), if_pos ⟨by omega, by rw [hdrop, c]; exact List.mem_cons_self⟩]
    · rw [if_neg c]
      obtain ⟨k', hk', heq⟩ := ih k (m + 1) x (by omega) (by omega) hx
      refine ⟨k', by omega, ?_⟩
      rw [heq]
      have : ((i : Int) ∈ L.drop m) ↔ (i : Int) ∈ L.drop (m + 1) := by
        rw [hdrop, List.mem_cons]
        constructor
        · rintro (h | h)
          · exact absurd h.symm c
          · exact h
        · exact .inr
      simp only [this]

theorem bs_set0 (L : List Int) (hL : L.length ≤ 103) (d : Nat) : ∀ (k i : Nat), 1 ≤ i → i + d = 64 → d * 106 + 70 ≤ k → catenaryref07_Set.l0 k L (sp (inL L) i : Nat) i = some ((sp (inL L) 64 : Nat) : Int) := by
  induction d with
  | zero =>
    intro k i h1 h2 h3
    obtain ⟨k, rfl⟩ : ∃ m, k = m + 1 := ⟨k - 1, by omega⟩
    simp only [catenaryref07_Set.l0]
    rw [if_neg (show ¬ (i : Int) ≤ 63 by omega), show i = 64 by omega]
  | succ d ih =>
    intro k i h1 h2 h3
    obtain ⟨k, rfl⟩ : ∃ m, k = m + 1 := ⟨k - 1, by omega⟩
    have hl := sp_lt (inL L) i
    simp only [catenaryref07_Set.l0]
    rw [if_pos (show (i : Int) ≤ 63 by omega), show (0 : Int) = ((0 : Nat) : Int) from rfl]
    obtain ⟨k', hk', heq⟩ := bs_set1 L hL i h1 (by omega) L.length k 0 (sp (inL L) i) (by omega) (by omega) (.inl hl)
    rw [heq, show (i : Int) + 1 = ((i + 1 : Nat) : Int) by omega]
    have e : (if sp (inL L) i < 2 ^ i ∧ (i : Int) ∈ L.drop 0 then sp (inL L) i + 2 ^ i else sp (inL L) i) = sp (inL L) (i + 1) := by
      simp only [sp, List.drop_zero]
      by_cases c : (i : Int) ∈ L
      · rw [if_pos ⟨hl, c⟩, if_pos (by unfold inL; simp [c]; omega)]
      · rw [if_neg (fun h => c h.2), if_neg (by unfold inL; simp [c])]
    rw [e]
    exact ih k' (i + 1) (by omega) (by omega) (by omega)

theorem bs_rwith (s k : Nat) (l : List Int) (hs : s < 18446744073709551616) (hl : l.length ≤ 40) (hk : 8000 ≤ k) : catenaryref07_With.f k s l = some ((sp (inL (lf (hasB s) 63 1 ++ l)) 64 : Nat) : Int) := by
  unfold catenaryref07_With.f catenaryref07_Set.f
  have hlen := lf_len (hasB s) 63 1
  rw [bs_rlist s k hs (by omega)]
  simp only [Option.bind_some]
  rw [if_pos (by omega)]
  have := bs_set0 (lf (hasB s) 63 1 ++ l) (by rw [List.length_append]; omega) 63 k 1 (by omega) (by omega) (by omega)
  have e : sp (inL (lf (hasB s) 63 1 ++ l)) 1 = 0 := by
    simp only [sp]
    rw [if_neg (by unfold inL; simp)]
  rw [e, show ((0 : Nat) : Int) = 0 from rfl, show ((1 : Nat) : Int) = 1 from rfl] at this
  rw [this]
  rfl

theorem bs_with0 (l : List Int) (hl : l.length ≤ 40) (d : Nat) : ∀ (k m x : Nat), m + d = l.length → d < k → x < 18446744073709551616 →
    ∃ y : Nat, ballot_With.l0 k x l (l.length : Int) m = some (y : Int) ∧ y < 18446744073709551616 ∧ ∀ j, y.testBit j = (x.testBit j || decide (1 ≤ j ∧ j ≤ 63 ∧ (j : Int) ∈ l.drop m)) := by
  induction d with
  | zero =>
    intro k m x g1 g2 hx
    obtain ⟨k, rfl⟩ : ∃ m, k = m + 1 := ⟨k - 1, by omega⟩
    refine ⟨x, ?_, hx, fun j => ?_⟩
    · simp only [ballot_With.l0]
      rw [if_neg (show ¬ (m : Int) < l.length by omega)]
    · rw [List.drop_eq_nil_of_le (by omega)]
      simp
  | succ d ih =>
    intro k m x g1 g2 hx
    obtain ⟨k, rfl⟩ : ∃ m, k = m + 1 := ⟨k - 1, by omega⟩
    have hm : m < l.length := by omega
    have hdrop : l.drop m = l[m] :: l.drop (m + 1) := List.drop_eq_getElem_cons hm
    simp only [ballot_With.l0]
    rw [if_pos (show (m : Int) < l.length by omega), if_pos (show (0 : Int) ≤ m by omega), if_pos (show (m : Int) < l.length by omega), rd_nat l m hm, i64_in ((m : Int) + 1) (by omega) (by omega), show (m : Int) + 1 = ((m + 1 : Nat) : Int) by omega]
    have hmem : ballot_member.f l[m] = some (decide (1 ≤ l[m] ∧ l[m] ≤ 63)) := by
      unfold ballot_member.f
      by_cases a : l[m] ≥ 1
      · rw [if_pos a]
        congr 1
        rw [decide_eq_decide]
        omega
      · rw [if_neg a, decide_eq_false (by omega)]
    rw [hmem]
    simp only [Option.bind_some]
    by_cases c : 1 ≤ l[m] ∧ l[m] ≤ 63
    · obtain ⟨i, hi⟩ := Int.eq_ofNat_of_zero_le (show 0 ≤ l[m] by omega)
      have hp : (2 : Nat) ^ i ≤ 2 ^ 63 := Nat.pow_le_pow_right (by decide) (by omega)
      rw [decide_eq_true c, if_pos rfl, if_pos (by omega), hi, sh1 i (by omega), u64_or_nat x (2 ^ i) hx (by omega)]
      have hor : x ||| 2 ^ i < 18446744073709551616 := Nat.or_lt_two_pow (n := 64) hx (by omega)
      obtain ⟨y, e1, e2, e3⟩ := ih k (m + 1) (x ||| 2 ^ i) (by omega) (by omega) hor
      refine ⟨y, e1, e2, fun j => ?_⟩
      rw [e3, Nat.testBit_or, Nat.testBit_two_pow, hdrop, hi]
      by_cases g : i = j
      · subst g
        have : decide (1 ≤ i ∧ i ≤ 63 ∧ (i : Int) ∈ (i : Int) :: l.drop (m + 1)) = true := decide_eq_true ⟨by omega, by omega, List.mem_cons_self⟩
        rw [this]
        simp
      · have : ((j : Int) ∈ (i : Int) :: l.drop (m + 1)) ↔ (j : Int) ∈ l.drop (m + 1) := by
          rw [List.mem_cons]
          constructor
          · rintro (h | h)
            · omega
            · exact h
          · exact .inr
        simp only [this, g, decide_false, Bool.or_false]
    · rw [decide_eq_false c, if_neg (by decide)]
      obtain ⟨y, e1, e2, e3⟩ := ih k (m + 1) x (by omega) (by omega) hx
      refine ⟨y, e1, e2, fun j => ?_⟩
      rw [e3, hdrop]
      congr 1
      rw [decide_eq_decide]
      constructor
      · rintro ⟨a, b, h⟩
        exact ⟨a, b, List.mem_cons_of_mem _ h⟩
      · rintro ⟨a, b, h⟩
        rw [List.mem_cons] at h
        rcases h with h | h
        · omega
        · exact ⟨a, b, h⟩

theorem bs_with (s k : Nat) (l : List Int) (hs : s < 18446744073709551616) (hl : l.length ≤ 40) (hk : 41 ≤ k) : ballot_With.f k s l = some ((sp (inL (lf (hasB s) 63 1 ++ l)) 64 : Nat) : Int) := by
  unfold ballot_With.f
  have e := u64_andNot_nat s 1 hs (by omega)
  rw [show ((1 : Nat) : Int) = 1 from rfl] at e
  rw [e, show 18446744073709551615 - 1 = 18446744073709551614 from rfl, and_even s hs, show (0 : Int) = ((0 : Nat) : Int) from rfl]
  obtain ⟨y, e1, e2, e3⟩ := bs_with0 l hl l.length k 0 (2 * (s / 2)) (by omega) (by omega) (by omega)
  rw [e1]
  congr 2
  apply Nat.eq_of_testBit_eq
  intro j
  rw [e3, sp_bit, List.drop_zero]
  by_cases h64 : j < 64
  · rw [decide_eq_true h64, Bool.true_and]
    unfold inL
    cases j with
    | zero =>
      rw [Nat.testBit_zero, show 2 * (s / 2) % 2 = 0 by omega]
      simp
    | succ j =>
      rw [Nat.testBit_succ, show 2 * (s / 2) / 2 = s / 2 by omega]
      have hm := mem_lf (hasB s) 63 1 (j + 1)
      have hb : hasB s (j + 1) = (s / 2).testBit j := by
        unfold hasB
        rw [Nat.testBit_eq_decide_div_mod_eq, decide_eq_decide, Nat.div_div_eq_div_mul, Nat.pow_succ, Nat.mul_comm 2]
        omega
      rw [hb] at hm
      rw [Bool.eq_iff_iff]
      simp only [Bool.or_eq_true, Bool.and_eq_true, decide_eq_true_iff, List.mem_append, hm, Nat.add_sub_cancel]
      constructor
      · rintro (h2 | ⟨h1, h2, h3⟩)
        · exact ⟨by omega, .inl ⟨by omega, by omega, h2⟩⟩
        · exact ⟨by omega, .inr h3⟩
      · rintro ⟨h1, (⟨h2, h3, h4⟩ | h2)⟩
        · exact .inl h4
        · exact .inr ⟨by omega, by omega, h2⟩
  · rw [decide_eq_false h64, Bool.false_and]
    have : (2 * (s / 2)).testBit j = false := Nat.testBit_lt_two_pow (Nat.lt_of_lt_of_le (show 2 * (s / 2) < 2 ^ 64 by omega) (Nat.pow_le_pow_right (by decide) (by omega)))
    rw [this, Bool.false_or, decide_eq_false_iff_not]
    omega

theorem bs_awake : catenarylaw07_awake.f = some true := by decide +kernel

theorem bs_quorum_some (n : Int) : ∃ q, ballot_Quorum.f n = some q := by
  unfold ballot_Quorum.f
  split <;> exact ⟨_, rfl⟩

theorem bs_j1 (s t : Nat) (n : Int) (hs : s < 18446744073709551616) (ht : t < 18446744073709551616) (h2 : n ≤ 9223372036854775807) (k : Nat) (hk : 300 ≤ k) : catenarylaw07_BallotSets.j1 k s t n false = some true := by
  obtain ⟨k, rfl⟩ : ∃ m, k = m + 1 := ⟨k - 1, by omega⟩
  obtain ⟨q, hq⟩ := bs_quorum_some n
  simp only [catenarylaw07_BallotSets.j1]
  rw [if_neg (by decide), bs_quorum_same, hq, bs_renough s n hs h2 k (by omega), bs_enough s n hs h2, bs_meet s t k hs ht (by omega), bs_rmeet s t k hs ht (by omega), bs_awake]
  simp only [Option.bind_some]
  have hlen := lf_len (hasB (s &&& t)) 63 1
  rw [if_pos trivial, if_pos (by simp), bs_same _ (by omega) k (by omega)]
  rfl

theorem bs_j0 (s t : Nat) (l : List Int) (n : Int) (hs : s < 18446744073709551616) (ht : t < 18446744073709551616) (h2 : n ≤ 9223372036854775807) (hl : l.length ≤ 40) : catenarylaw07_BallotSets.j0 10000 s t l n = some true := by
  have hlen := lf_len (hasB s) 63 1
  have e : catenarylaw07_BallotSets.j0 (9999 + 1) s t l n = some true := by
    simp only [catenarylaw07_BallotSets.j0]
    rw [bs_with s 9999 l hs hl (by omega), bs_rwith s 9999 l hs hl (by omega), bs_has s n hs, bs_rhas s n hs 9999 (by omega), bs_list s 9999 hs (by omega), bs_rlist s 9999 hs (by omega), bs_count s hs]
    simp only [Option.bind_some]
    rw [if_pos trivial, if_neg (by simp), bs_same _ (by omega) 9999 (by omega)]
    simp only [Option.bind_some]
    rw [if_pos trivial, bs_len s, show (((cnt 63 s : Nat) : Int) != ((cnt 63 s : Nat) : Int)) = false by simp]
    exact bs_j1 s t n hs ht h2 9999 (by omega)
  exact e

theorem BallotSets : catenarylaw07_BallotSets.Pure := by
  intro s t l hs ht _ _ hl
  have hs := bounds_u64 hs
  have ht := bounds_u64 ht
  obtain ⟨s, rfl⟩ := Int.eq_ofNat_of_zero_le hs.1
  obtain ⟨t, rfl⟩ := Int.eq_ofNat_of_zero_le ht.1
  refine ⟨10000, ?_⟩
  unfold catenarylaw07_BallotSets.f
  by_cases h40 : (l.length : Int) > 40
  · rw [if_pos h40, bs_awake]
    rfl
  · rw [if_neg h40]
    by_cases h0 : (l.length : Int) > 0
    · rw [if_pos h0, if_pos h0]
      refine bs_j0 s t l _ (by omega) (by omega) ?_ (by omega)
      have hm : rd l 0 = l[0]'(by omega) := rd_nat l 0 (by omega)
      rw [hm]
      exact (bounds_i64 (hl _ (List.getElem_mem _))).2
    · rw [if_neg h0]
      exact bs_j0 s t l 0 (by omega) (by omega) (by omega) (by omega)

end Go.Proofs.Ytjbipghbhhkgcaa.Pure
