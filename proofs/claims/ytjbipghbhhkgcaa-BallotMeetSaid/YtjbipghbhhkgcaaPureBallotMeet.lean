/- Of two sets that are enough of n, some number from 1 to n is in both: for all numbers of their kinds. No condition. -/
import Derived.Test.YtjbipghbhhkgcaaPBallotMeetx1
import Derived.Test.YtjbipghbhhkgcaaBit
import Derived.OpenShut
set_option linter.unusedVariables false
namespace Go.Proofs.Ytjbipghbhhkgcaa.Pure
open Go.RowKit Go.Proofs.Ytjbipghbhhkgcaa.PBallotMeet Go.Proofs.YtjbipghbhhkgcaaW.PrintWords Go.Proofs.YtjbipghbhhkgcaaW.PrintLast Go.Proofs.YtjbipghbhhkgcaaW.PrintMore Go.Proofs.Ytjbipghbhhkgcaa.Pop

theorem mt_ones (a : Int) : bits_OnesCount64.f a = some (ones64 a) := rfl

theorem mt_count (s : Nat) (h : s < 18446744073709551616) : ballot_Count.f s = some ((cnt 63 s : Nat) : Int) := by
  unfold ballot_Count.f
  rw [mt_ones, count_is s h]
  rfl

theorem mt_quorum (n : Int) (h1 : 1 ≤ n) (h2 : n ≤ 9223372036854775807) : ballot_Quorum.f n = some (n / 2 + 1) := by
  unfold ballot_Quorum.f
  rw [if_neg (show ¬ n < 1 by omega), Int.tdiv_eq_ediv_of_nonneg (by omega), i64_in (n / 2) (by omega) (by omega), i64_in _ (by omega) (by omega)]

theorem mt_enough (s : Nat) (n : Int) (hs : s < 18446744073709551616) (h2 : n ≤ 9223372036854775807) :
    ballot_Enough.f s n = some (decide (1 ≤ n ∧ n / 2 + 1 ≤ ((cnt (min n.toNat 63) s : Nat) : Int))) := by
  unfold ballot_Enough.f
  by_cases h1 : n < 1
  · rw [if_pos h1]
    simp
    omega
  · rw [if_neg h1]
    by_cases g : n < 63
    · obtain ⟨m, rfl⟩ := Int.eq_ofNat_of_zero_le (show 0 ≤ n by omega)
      rw [if_pos g, i64_in ((m : Int) + 1) (by omega) (by omega), if_pos (show (0 : Int) ≤ (m : Int) + 1 by omega), cut_is m s hs (by omega),
        mt_count _ (Nat.lt_of_le_of_lt (Nat.mod_le _ _) hs), cnt_cut m s (by omega), mt_quorum _ (by omega) h2]
      simp only [Option.bind_some]
      rw [show min ((m : Int)).toNat 63 = m by omega]
      congr 1
      rw [decide_eq_decide]
      omega
    · rw [if_neg g, mt_count _ hs, mt_quorum _ (by omega) h2]
      simp only [Option.bind_some]
      rw [show min n.toNat 63 = 63 by omega]
      congr 1
      rw [decide_eq_decide]
      omega

theorem mt_has (s i : Nat) (hs : s < 18446744073709551616) : ballot_Has.f s i = some (hasB s i) := by
  unfold ballot_Has.f ballot_member.f hasB
  by_cases a : (i : Int) ≥ 1
  · rw [if_pos a]
    by_cases b : (i : Int) ≤ 63
    · simp only [b, decide_true, Option.bind_some, if_true]
      rw [if_pos (show (0 : Int) ≤ i by omega), bit_is s i hs (by omega)]
      congr 1
      generalize s / 2 ^ i % 2 = q
      rw [Bool.eq_iff_iff, beq_iff_eq, decide_eq_true_iff]
      omega
    · simp only [b, decide_false, Option.bind_some]
      rw [if_neg (by decide)]
      congr 1
      symm
      rw [decide_eq_false_iff_not]
      omega
  · rw [if_neg a]
    simp only [Option.bind_some]
    rw [if_neg (by decide)]
    congr 1
    symm
    rw [decide_eq_false_iff_not]
    omega

theorem mt_l0 (s : Nat) (hs : s < 18446744073709551616) (d : Nat) : ∀ (k i : Nat) (out : List Int), i + d = 64 → d < k → out.length ≤ i → ballot_List.l0 k s out i = some (out ++ lf (hasB s) d i) := by
  induction d with
  | zero =>
    intro k i out h1 h2 h3
    obtain ⟨k, rfl⟩ : ∃ m, k = m + 1 := ⟨k - 1, by omega⟩
    simp only [ballot_List.l0]
    rw [if_neg (show ¬ (i : Int) < 64 by omega)]
    simp [lf]
  | succ d ih =>
    intro k i out h1 h2 h3
    obtain ⟨k, rfl⟩ : ∃ m, k = m + 1 := ⟨k - 1, by omega⟩
    simp only [ballot_List.l0]
    rw [if_pos (show (i : Int) < 64 by omega), mt_has s i hs, i64_in ((i : Int) + 1) (by omega) (by omega), show (i : Int) + 1 = ((i + 1 : Nat) : Int) by omega]
    simp only [Option.bind_some, lf]
    by_cases b : hasB s i = true
    · rw [if_pos b, if_pos b, if_pos (by omega), ih k (i + 1) (out ++ [(i : Int)]) (by omega) (by omega) (by simp; omega)]
      simp
    · rw [if_neg b, if_neg b, ih k (i + 1) out (by omega) (by omega) (by omega)]

theorem mt_meet (s t : Nat) (hs : s < 18446744073709551616) (ht : t < 18446744073709551616) : ballot_Meet.f 65 s t = some (lf (hasB (s &&& t)) 64 0) := by
  unfold ballot_Meet.f ballot_List.f
  rw [u64_and_nat s t hs ht]
  have := mt_l0 (s &&& t) (Nat.lt_of_le_of_lt Nat.and_le_left hs) 64 65 0 [] (by omega) (by omega) (by simp)
  rw [show ((0 : Nat) : Int) = 0 from rfl] at this
  rw [this]
  simp

theorem mt_awake : catenarylaw07_awake.f = some true := by decide +kernel

theorem BallotMeet : catenarylaw07_BallotMeet.Pure := by
  intro s t n hs ht hn
  have hs := bounds_u64 hs
  have ht := bounds_u64 ht
  have hn := bounds_i64 hn
  obtain ⟨s, rfl⟩ := Int.eq_ofNat_of_zero_le hs.1
  obtain ⟨t, rfl⟩ := Int.eq_ofNat_of_zero_le ht.1
  refine ⟨66, ?_⟩
  unfold catenarylaw07_BallotMeet.f
  rw [mt_enough s n (by omega) hn.2, mt_enough t n (by omega) hn.2]
  simp only [Option.bind_some]
  have hj : ∀ b : Bool, (b = false → (1 ≤ n ∧ n / 2 + 1 ≤ ((cnt (min n.toNat 63) s : Nat) : Int)) ∧ (1 ≤ n ∧ n / 2 + 1 ≤ ((cnt (min n.toNat 63) t : Nat) : Int))) → catenarylaw07_BallotMeet.j0 66 s t n b = some true := by
    intro b hb
    simp only [catenarylaw07_BallotMeet.j0]
    rw [mt_awake]
    cases b with
    | true => simp
    | false =>
      obtain ⟨⟨h1, h2⟩, -, h3⟩ := hb rfl
      have hm := cnt_meet (min n.toNat 63) s t
      obtain ⟨i, i1, i2, i3⟩ := cnt_some (min n.toNat 63) (s &&& t) (by omega)
      obtain ⟨m, l, e, a, c, g⟩ := lf_head (hasB (s &&& t)) 64 0 i (by omega) (by omega) (by unfold hasB; simp; omega)
      have g1 : 1 ≤ m := by unfold hasB at g; simp at g; omega
      rw [if_neg (by decide), mt_meet s t (by omega) (by omega), e]
      simp only [Option.bind_some]
      have hrd : rd ((m : Int) :: l) 0 = m := rfl
      rw [hrd, if_pos (by simp), if_pos (by simp), if_pos (show (m : Int) ≥ 1 by omega), if_pos (show (m : Int) ≤ n by omega)]
  by_cases a : 1 ≤ n ∧ n / 2 + 1 ≤ ((cnt (min n.toNat 63) s : Nat) : Int)
  · rw [decide_eq_true a, if_pos rfl]
    by_cases b : 1 ≤ n ∧ n / 2 + 1 ≤ ((cnt (min n.toNat 63) t : Nat) : Int)
    · rw [decide_eq_true b]
      exact hj _ (fun _ => ⟨a, b⟩)
    · rw [decide_eq_false b]
      exact hj _ (fun h => by cases h)
  · rw [decide_eq_false a, if_neg (by decide)]
    exact hj _ (fun h => by cases h)

end Go.Proofs.Ytjbipghbhhkgcaa.Pure
