/- The next ballot of any master is the chapter's, above what it is next to, and nobody else's: for all numbers of their kinds. No condition. -/
import Derived.Test.YtjbipghbhhkgcaaPBallotNextx1
import Derived.OpenShut
namespace Go.Proofs.Ytjbipghbhhkgcaa.Pure
open Go.RowKit Go.Proofs.Ytjbipghbhhkgcaa.PBallotNext Go.Proofs.YtjbipghbhhkgcaaW.PrintWords Go.Proofs.YtjbipghbhhkgcaaW.PrintLast

theorem nx_w (n : Int) : IntKind.u64.wrap n = n % 18446744073709551616 := by
  simp [IntKind.wrap, IntKind.bits, IntKind.signed]

theorem nx_in (n : Int) (h0 : 0 ≤ n) (h1 : n ≤ 18446744073709551615) : IntKind.u64.wrap n = n := by
  rw [nx_w]
  omega

/-- The round of the next ballot; 0: there is none. -/
def nxr (b w : Int) : Int :=
  if b / 8 = 0 then 1
  else if 8 * (b / 8) + w ≤ b then (if b / 8 + 1 ≥ 1152921504606846976 then 0 else b / 8 + 1)
  else if b / 8 ≥ 1152921504606846976 then 0 else b / 8

theorem nxr_is (b w : Int) (h0 : 0 ≤ b) (h1 : 1 ≤ w) (h2 : w ≤ 5) : 0 ≤ nxr b w ∧ nxr b w < 1152921504606846976 ∧ (nxr b w = 0 ∨ b < 8 * nxr b w + w) := by
  unfold nxr
  split
  · omega
  · split
    · split <;> omega
    · split <;> omega

def nxe (b w : Int) : Int × Int :=
  if 1 ≤ w ∧ w ≤ 5 then (if nxr b w = 0 then (0, 9) else (8 * nxr b w + w, 0)) else (0, 1)

theorem nx_of (r w : Int) (h0 : 1 ≤ w) (h1 : w ≤ 5) (h2 : 1 ≤ r) (h3 : r < 1152921504606846976) : ballot_Of.f r w = some (8 * r + w, 0) := by
  unfold ballot_Of.f ballot_master.f
  rw [if_neg (show ¬ r < 1 by omega), if_neg (show ¬ r ≥ 1152921504606846976 by omega), if_pos (show w ≥ 1 by omega)]
  simp only [h1, decide_true, Option.bind_some, if_true]
  rw [nx_in (8 * r) (by omega) (by omega), nx_in w (by omega) (by omega), nx_in (8 * r + w) (by omega) (by omega)]

theorem nx_next (b w : Int) (h0 : 0 ≤ b) (h1 : b ≤ 18446744073709551615) : ballot_Next.f b w = some (nxe b w) := by
  unfold ballot_Next.f ballot_master.f nxe
  by_cases g : w ≥ 1
  · rw [if_pos g]
    by_cases i : w ≤ 5
    · simp only [i, decide_true, Option.bind_some, if_true]
      rw [if_pos (show 1 ≤ w ∧ True from ⟨g, trivial⟩)]
      have ed : Int.tdiv b 8 = b / 8 := Int.tdiv_eq_ediv_of_nonneg h0
      rw [ed, nx_in (b / 8) (by omega) (by omega)]
      unfold nxr
      by_cases q : b / 8 = 0
      · rw [if_pos q, q]
        have em : mx 0 1 = 1 := rfl
        rw [em, nx_in (8 * 1) (by omega) (by omega), nx_in w (by omega) (by omega), nx_in (8 * 1 + w) (by omega) (by omega)]
        rw [if_neg (show ¬ 8 * 1 + w ≤ b by omega), if_neg (by decide), nx_of 1 w g i (by omega) (by omega)]
        simp
      · rw [if_neg q]
        have em : mx (b / 8) 1 = b / 8 := by unfold mx; omega
        rw [em, nx_in (8 * (b / 8)) (by omega) (by omega), nx_in w (by omega) (by omega), nx_in (8 * (b / 8) + w) (by omega) (by omega), nx_in (b / 8 + 1) (by omega) (by omega)]
        by_cases c : 8 * (b / 8) + w ≤ b
        · rw [if_pos c, if_pos c]
          by_cases d : b / 8 + 1 ≥ 1152921504606846976
          · rw [if_pos d, if_pos d]
            simp
          · rw [if_neg d, if_neg d, nx_of (b / 8 + 1) w g i (by omega) (by omega), if_neg (show ¬ b / 8 + 1 = 0 by omega)]
            simp
        · rw [if_neg c, if_neg c]
          by_cases d : b / 8 ≥ 1152921504606846976
          · rw [if_pos d, if_pos d]
            simp
          · rw [if_neg d, if_neg d, nx_of (b / 8) w g i (by omega) (by omega), if_neg q]
            simp
    · rw [if_neg (show ¬ (1 ≤ w ∧ w ≤ 5) by omega)]
      simp [i]
  · rw [if_neg g, if_neg (show ¬ (1 ≤ w ∧ w ≤ 5) by omega)]
    simp

theorem nx_rof (r w : Int) (h0 : 1 ≤ w) (h1 : w ≤ 5) : catenaryref07_Of.f r w = some (if 1 ≤ r ∧ r < 1152921504606846976 then (8 * r + w, 0) else (0, 1)) := by
  unfold catenaryref07_Of.f catenaryref07_Master.f
  by_cases a : r < 1
  · rw [if_pos a, if_neg (show ¬ (1 ≤ r ∧ r < 1152921504606846976) by omega)]
  · rw [if_neg a]
    by_cases c : r > 1152921504606846975
    · rw [if_pos c, if_neg (show ¬ (1 ≤ r ∧ r < 1152921504606846976) by omega)]
    · rw [if_neg c, if_pos (show w ≥ 1 by omega), if_pos (show 1 ≤ r ∧ r < 1152921504606846976 by omega)]
      simp only [h1, decide_true, Option.bind_some, if_true]
      rw [nx_in (r * 8) (by omega) (by omega), nx_in w (by omega) (by omega), nx_in (r * 8 + w) (by omega) (by omega), Int.mul_comm r 8]

/-- One look of the reference: at the round b / 8 + i. -/
theorem nx_look (k : Nat) (b w i : Int) (h0 : 0 ≤ b) (h1 : b ≤ 18446744073709551615) (g : 1 ≤ w) (j : w ≤ 5) (i0 : 0 ≤ i) (i1 : i < 3) :
    catenaryref07_Next.l0 (k + 1) b w i = if (1 ≤ b / 8 + i ∧ b / 8 + i < 1152921504606846976) ∧ b < 8 * (b / 8 + i) + w then some (8 * (b / 8 + i) + w, 0) else catenaryref07_Next.l0 k b w (i + 1) := by
  have ed : Int.tdiv b 8 = b / 8 := Int.tdiv_eq_ediv_of_nonneg h0
  simp only [catenaryref07_Next.l0]
  rw [if_pos i1, ed, nx_in (b / 8) (by omega) (by omega), nx_in (b / 8 + i) (by omega) (by omega), nx_in (i + 1) (by omega) (by omega), nx_rof _ _ g j]
  simp only [Option.bind_some]
  by_cases a : 1 ≤ b / 8 + i ∧ b / 8 + i < 1152921504606846976
  · rw [if_pos a]
    by_cases c : b < 8 * (b / 8 + i) + w
    · rw [if_pos rfl, if_pos (show (8 * (b / 8 + i) + w, (0 : Int)).1 > b from c), if_pos ⟨a, c⟩]
    · rw [if_pos rfl, if_neg (show ¬ (8 * (b / 8 + i) + w, (0 : Int)).1 > b from c), if_neg (fun h => c h.2)]
  · rw [if_neg a, if_neg (show ¬ ((0 : Int), (1 : Int)).2 = 0 from by decide), if_neg (fun h => a h.1)]

theorem nx_ref (b w : Int) (h0 : 0 ≤ b) (h1 : b ≤ 18446744073709551615) : catenaryref07_Next.f 4 b w = some (nxe b w) := by
  unfold catenaryref07_Next.f catenaryref07_Master.f nxe
  by_cases g : w ≥ 1
  · rw [if_pos g]
    by_cases i : w ≤ 5
    · simp only [i, decide_true, Option.bind_some, if_true]
      rw [if_pos (show 1 ≤ w ∧ True from ⟨g, trivial⟩)]
      rw [nx_look 3 b w 0 h0 h1 g i (by omega) (by omega), nx_look 2 b w (0 + 1) h0 h1 g i (by omega) (by omega), nx_look 1 b w (0 + 1 + 1) h0 h1 g i (by omega) (by omega)]
      have e3 : catenaryref07_Next.l0 1 b w (0 + 1 + 1 + 1) = some (0, 9) := by
        simp only [catenaryref07_Next.l0]
        rw [if_neg (by decide)]
      rw [e3]
      unfold nxr
      by_cases q : b / 8 = 0
      · rw [if_pos q, q, if_neg (by omega), if_pos (by omega)]
        simp
      · rw [if_neg q]
        by_cases c : 8 * (b / 8) + w ≤ b
        · rw [if_pos c, if_neg (by omega)]
          by_cases d : b / 8 + 1 ≥ 1152921504606846976
          · rw [if_pos d, if_neg (by omega), if_neg (by omega)]
            simp
          · rw [if_neg d, if_pos (by omega), if_neg (show ¬ b / 8 + 1 = 0 by omega)]
            simp
        · rw [if_neg c]
          by_cases d : b / 8 ≥ 1152921504606846976
          · rw [if_pos d, if_neg (by omega), if_neg (by omega), if_neg (by omega)]
            simp
          · rw [if_neg d, if_pos (by omega), if_neg q]
            simp
    · rw [if_neg (show ¬ (1 ≤ w ∧ w ≤ 5) by omega)]
      simp [i]
  · rw [if_neg g, if_neg (show ¬ (1 ≤ w ∧ w ≤ 5) by omega)]
    simp

theorem nx_who (r w : Int) (h0 : 1 ≤ w) (h1 : w ≤ 5) (h2 : 1 ≤ r) (h3 : r < 1152921504606846976) : ballot_Who.f (8 * r + w) = some w := by
  have ed : Int.tdiv (8 * r + w) 8 = r := by rw [Int.tdiv_eq_ediv_of_nonneg (by omega)]; omega
  have em : Int.tmod (8 * r + w) 8 = w := by rw [Int.tmod_eq_emod_of_nonneg (by omega)]; omega
  have ew : wrap64 w = w := by unfold wrap64; omega
  unfold ballot_Who.f ballot_Is.f ballot_master.f
  rw [ed, em, nx_in r (by omega) (by omega), ew, if_pos (show r ≥ 1 from h2), if_pos h3, if_pos (show w ≥ 1 from h0)]
  simp [h1]

theorem nx_awake : catenarylaw07_awake.f = some true := by decide +kernel

theorem nx_end (b w o : Int) (h0 : 0 ≤ b) :
    catenarylaw07_BallotNext.j0 4 b w o (nxe b w).1 (nxe b w).2 (nxe b o).1 (nxe b o).2 false = some true := by
  simp only [catenarylaw07_BallotNext.j0]
  rw [if_neg (by decide), nx_awake]
  simp only [Option.bind_some]
  by_cases e : (nxe b w).2 = 0
  · rw [if_pos e]
    have hx : ∃ r, (nxe b w).1 = 8 * r + w ∧ 1 ≤ w ∧ w ≤ 5 ∧ 1 ≤ r ∧ r < 1152921504606846976 ∧ b < 8 * r + w := by
      unfold nxe at e ⊢
      by_cases a : 1 ≤ w ∧ w ≤ 5
      · rw [if_pos a] at e ⊢
        have := nxr_is b w h0 a.1 a.2
        by_cases z : nxr b w = 0
        · rw [if_pos z] at e
          exact absurd e (by decide)
        · rw [if_neg z]
          exact ⟨_, rfl, a.1, a.2, by omega, this.2.1, by omega⟩
      · rw [if_neg a] at e
        exact absurd e (by decide)
    obtain ⟨r, er, w1, w5, r1, r2, hlt⟩ := hx
    rw [er, if_neg (by omega), nx_who r w w1 w5 r1 r2]
    simp only [Option.bind_some]
    rw [if_pos trivial]
    by_cases f : (nxe b o).2 = 0
    · rw [if_pos f]
      have hz : ∃ s, (nxe b o).1 = 8 * s + o ∧ 1 ≤ o ∧ o ≤ 5 := by
        unfold nxe at f ⊢
        by_cases a : 1 ≤ o ∧ o ≤ 5
        · rw [if_pos a] at f ⊢
          by_cases z : nxr b o = 0
          · rw [if_pos z] at f
            exact absurd f (by decide)
          · rw [if_neg z]
            exact ⟨_, rfl, a.1, a.2⟩
        · rw [if_neg a] at f
          exact absurd f (by decide)
      obtain ⟨s, es, o1, o5⟩ := hz
      by_cases c : w = o
      · rw [if_pos c]
      · rw [if_neg c, es, if_neg (by omega)]
    · rw [if_neg f]
  · rw [if_neg e]

theorem BallotNext : catenarylaw07_BallotNext.Pure := by
  intro b w o hb _ _
  have hb := bounds_u64 hb
  refine ⟨4, ?_⟩
  unfold catenarylaw07_BallotNext.f
  rw [nx_next b w hb.1 hb.2, nx_next b o hb.1 hb.2, nx_ref b w hb.1 hb.2]
  simp only [Option.bind_some]
  rw [if_pos trivial]
  have := nx_end b w o hb.1
  simpa using this

end Go.Proofs.Ytjbipghbhhkgcaa.Pure
