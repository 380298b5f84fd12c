/- Any round's and master's ballot, and those of any number, are the chapter's: the printed functions of the program and of the reference agree on all numbers of their kinds. No condition. -/
import Derived.Test.YtjbipghbhhkgcaaPBallotOfx1
namespace Go.Proofs.Ytjbipghbhhkgcaa.Pure
open Go.RowKit Go.Proofs.Ytjbipghbhhkgcaa.PBallotOf Go.Proofs.YtjbipghbhhkgcaaW.PrintWords Go.Proofs.YtjbipghbhhkgcaaW.PrintLast

theorem of_master (a : Int) : ballot_master.f a = catenaryref07_Master.f a := rfl

theorem of_of (r w : Int) : ballot_Of.f r w = catenaryref07_Of.f r w := by
  unfold ballot_Of.f catenaryref07_Of.f
  rw [of_master]
  by_cases h : r < 1
  · rw [if_pos h, if_pos h]
  · rw [if_neg h, if_neg h]
    by_cases g : r ≥ 1152921504606846976
    · rw [if_pos g, if_pos (by omega)]
    · rw [if_neg g, if_neg (by omega), Int.mul_comm 8 r]

theorem of_is (b : Int) : ballot_Is.f b = catenaryref07_Is.f b := by
  unfold ballot_Is.f catenaryref07_Is.f catenaryref07_Of.f
  rw [of_master]
  generalize IntKind.u64.wrap (Int.tdiv b 8) = q
  generalize wrap64 (Int.tmod b 8) = m
  unfold catenaryref07_Master.f
  by_cases h : q < 1
  · rw [if_neg (show ¬ q ≥ 1 by omega), if_pos h]
    rfl
  · rw [if_pos (show q ≥ 1 by omega), if_neg h]
    by_cases g : q > 1152921504606846975
    · rw [if_neg (show ¬ q < 1152921504606846976 by omega), if_pos g]
      rfl
    · rw [if_pos (show q < 1152921504606846976 by omega), if_neg g]
      by_cases i : m ≥ 1
      · rw [if_pos i]
        by_cases n : m ≤ 5
        · simp [n]
        · simp [n]
      · rw [if_neg i]
        simp

theorem of_is_some (b : Int) : ∃ t, ballot_Is.f b = some t := by
  unfold ballot_Is.f ballot_master.f
  split
  · split
    · split <;> simp
    · simp
  · simp

theorem of_of_some (r w : Int) : ∃ t, ballot_Of.f r w = some t := by
  unfold ballot_Of.f ballot_master.f
  split
  · simp
  · split
    · simp
    · split
      · simp only [Option.bind_some]
        split <;> exact ⟨_, rfl⟩
      · simp

theorem BallotOf : catenarylaw07_BallotOf.Pure := by
  intro r w b _ _ _
  unfold catenarylaw07_BallotOf.f ballot_Round.f catenaryref07_Round.f ballot_Who.f catenaryref07_Who.f
  rw [← of_of, ← of_is]
  obtain ⟨t, ht⟩ := of_of_some r w
  obtain ⟨u, hu⟩ := of_is_some b
  have ha : catenarylaw07_awake.f = some true := by decide +kernel
  rw [ht, hu, ha]
  cases u <;> simp

end Go.Proofs.Ytjbipghbhhkgcaa.Pure
