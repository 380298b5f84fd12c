/- The walk of the law BallotSets: lines that print.sh wrote for this law (its text x3, which falls in Lean at one test), with the two ways of that test told apart by hand. -/
import Derived.Test.YtjbipghbhhkgcaaPBallotSetsx0
import Derived.Test.YtjbipghbhhkgcaaPBallotSetsx1
import Derived.Test.YtjbipghbhhkgcaaPBallotSetsx2
namespace Go.Proofs.Ytjbipghbhhkgcaa.PBallotSets
open Go.RowKit Go.Proofs.YtjbipghbhhkgcaaW.PrintWords Go.Proofs.YtjbipghbhhkgcaaW.PrintLast Go.Proofs.YtjbipghbhhkgcaaW.PrintMore
attribute [local go_sem] max2_int min2_int max_two min_two max_three min_three max_four min_four   -- for this text's walks alone
set_option linter.unusedVariables false
set_option linter.unusedSimpArgs false

/-! ### catenarylaw07_BallotSets: function 6 -/
mutual
def catenarylaw07_BallotSets.j0 : Nat → Int → Int → List Int → Int → Option (Bool)
  | 0, _, _, _, _ => none
  | k + 1, x0, x1, x2, x7 => (ballot_With.f k x0 x2).bind fun t151 => ((catenaryref07_With.f k x0 x2).bind fun t152 => (if t151 = t152 then ((ballot_Has.f x0 x7).bind fun t153 => ((catenaryref07_Has.f k x0 x7).bind fun t154 => (if (t153 != t154) = true then (catenarylaw07_BallotSets.j1 k x0 x1 x7 true) else ((ballot_List.f k x0).bind fun t155 => ((catenaryref07_List.f k x0).bind fun t158 => ((catenaryref04_Same.f k t155 t158).bind fun t161 => (if t161 = true then ((ballot_Count.f x0).bind fun t162 => ((catenaryref07_List.f k x0).bind fun t163 => (catenarylaw07_BallotSets.j1 k x0 x1 x7 (t162 != (t163.length : Int))))) else (catenarylaw07_BallotSets.j1 k x0 x1 x7 true)))))))) else (catenarylaw07_BallotSets.j1 k x0 x1 x7 true)))
def catenarylaw07_BallotSets.j1 : Nat → Int → Int → Int → Bool → Option (Bool)
  | 0, _, _, _, _ => none
  | k + 1, x0, x1, x7, x49 => if x49 = true then (some false) else ((ballot_Quorum.f x7).bind fun t166 => ((catenaryref07_Quorum.f x7).bind fun t167 => (if t166 = t167 then ((ballot_Enough.f x0 x7).bind fun t168 => ((catenaryref07_Enough.f k x0 x7).bind fun t169 => (if (t168 == t169) = true then ((ballot_Meet.f k x0 x1).bind fun t170 => ((catenaryref07_Meet.f k x0 x1).bind fun t173 => ((catenaryref04_Same.f k t170 t173).bind fun t176 => (if t176 = true then ((catenarylaw07_awake.f).bind fun t177 => (some t177)) else (some false))))) else (some false)))) else (some false))))
end
def catenarylaw07_BallotSets.f (k : Nat) (a0 : Int) (a1 : Int) (l2 : List Int) : Option (Bool) := if (l2.length : Int) > 40 then ((catenarylaw07_awake.f).bind fun t149 => (some t149)) else (if (l2.length : Int) > 0 then (if 0 < (l2.length : Int) then (catenarylaw07_BallotSets.j0 k a0 a1 l2 (rd l2 0)) else (none)) else (catenarylaw07_BallotSets.j0 k a0 a1 l2 0))
theorem catenarylaw07_BallotSets.mono_l : ∀ k, (∀ y0 y1 y2 y3, LeO (catenarylaw07_BallotSets.j0 k y0 y1 y2 y3) (catenarylaw07_BallotSets.j0 (k + 1) y0 y1 y2 y3)) ∧ (∀ y0 y1 y2 y3, LeO (catenarylaw07_BallotSets.j1 k y0 y1 y2 y3) (catenarylaw07_BallotSets.j1 (k + 1) y0 y1 y2 y3))
  | 0 => ⟨fun _ _ _ _ r h => by simp [catenarylaw07_BallotSets.j0] at h, fun _ _ _ _ r h => by simp [catenarylaw07_BallotSets.j1] at h⟩
  | k + 1 => by
    obtain ⟨ih0, ih1⟩ := catenarylaw07_BallotSets.mono_l k
    refine ⟨?_, ?_⟩
    · intro y0 y1 y2 y3
      unfold catenarylaw07_BallotSets.j0
      repeat' first
      | (with_reducible exact ih0 _ _ _ _)
      | (with_reducible exact ih1 _ _ _ _)
      | (with_reducible exact ballot_List.mono _ _)
      | (with_reducible exact ballot_Meet.mono _ _ _)
      | (with_reducible exact ballot_With.mono _ _ _)
      | (with_reducible exact catenaryref04_Same.mono _ _ _)
      | (with_reducible exact catenaryref07_Enough.mono _ _ _)
      | (with_reducible exact catenaryref07_Has.mono _ _ _)
      | (with_reducible exact catenaryref07_List.mono _ _)
      | (with_reducible exact catenaryref07_Meet.mono _ _ _)
      | (with_reducible exact catenaryref07_With.mono _ _ _)
      | (with_reducible exact LeO.refl _)
      | (with_reducible exact LeO.none _)
      | (with_reducible refine LeO.ite ?_ ?_)
      | (with_reducible refine LeO.bind ?_ (fun _ => ?_))
      | exact ih0 _ _ _ _
      | exact ih1 _ _ _ _
      | exact ballot_List.mono _ _
      | exact ballot_Meet.mono _ _ _
      | exact ballot_With.mono _ _ _
      | exact catenaryref04_Same.mono _ _ _
      | exact catenaryref07_Enough.mono _ _ _
      | exact catenaryref07_Has.mono _ _ _
      | exact catenaryref07_List.mono _ _
      | exact catenaryref07_Meet.mono _ _ _
      | exact catenaryref07_With.mono _ _ _
      | exact LeO.none _
      | refine LeO.ite ?_ ?_
      | refine LeO.bind ?_ (fun _ => ?_)
    · intro y0 y1 y2 y3
      unfold catenarylaw07_BallotSets.j1
      repeat' first
      | (with_reducible exact ih0 _ _ _ _)
      | (with_reducible exact ih1 _ _ _ _)
      | (with_reducible exact ballot_List.mono _ _)
      | (with_reducible exact ballot_Meet.mono _ _ _)
      | (with_reducible exact ballot_With.mono _ _ _)
      | (with_reducible exact catenaryref04_Same.mono _ _ _)
      | (with_reducible exact catenaryref07_Enough.mono _ _ _)
      | (with_reducible exact catenaryref07_Has.mono _ _ _)
      | (with_reducible exact catenaryref07_List.mono _ _)
      | (with_reducible exact catenaryref07_Meet.mono _ _ _)
      | (with_reducible exact catenaryref07_With.mono _ _ _)
      | (with_reducible exact LeO.refl _)
      | (with_reducible exact LeO.none _)
      | (with_reducible refine LeO.ite ?_ ?_)
      | (with_reducible refine LeO.bind ?_ (fun _ => ?_))
      | exact ih0 _ _ _ _
      | exact ih1 _ _ _ _
      | exact ballot_List.mono _ _
      | exact ballot_Meet.mono _ _ _
      | exact ballot_With.mono _ _ _
      | exact catenaryref04_Same.mono _ _ _
      | exact catenaryref07_Enough.mono _ _ _
      | exact catenaryref07_Has.mono _ _ _
      | exact catenaryref07_List.mono _ _
      | exact catenaryref07_Meet.mono _ _ _
      | exact catenaryref07_With.mono _ _ _
      | exact LeO.none _
      | refine LeO.ite ?_ ?_
      | refine LeO.bind ?_ (fun _ => ?_)
theorem catenarylaw07_BallotSets.mono : ∀ a0 a1 a2 k, LeO (catenarylaw07_BallotSets.f k a0 a1 a2) (catenarylaw07_BallotSets.f (k + 1) a0 a1 a2) := by
  intro a0 a1 a2 k
  obtain ⟨ih0, ih1⟩ := catenarylaw07_BallotSets.mono_l k
  unfold catenarylaw07_BallotSets.f
  repeat' first
      | (with_reducible exact ih0 _ _ _ _)
      | (with_reducible exact ih1 _ _ _ _)
      | (with_reducible exact ballot_List.mono _ _)
      | (with_reducible exact ballot_Meet.mono _ _ _)
      | (with_reducible exact ballot_With.mono _ _ _)
      | (with_reducible exact catenaryref04_Same.mono _ _ _)
      | (with_reducible exact catenaryref07_Enough.mono _ _ _)
      | (with_reducible exact catenaryref07_Has.mono _ _ _)
      | (with_reducible exact catenaryref07_List.mono _ _)
      | (with_reducible exact catenaryref07_Meet.mono _ _ _)
      | (with_reducible exact catenaryref07_With.mono _ _ _)
      | (with_reducible exact LeO.refl _)
      | (with_reducible exact LeO.none _)
      | (with_reducible refine LeO.ite ?_ ?_)
      | (with_reducible refine LeO.bind ?_ (fun _ => ?_))
      | exact ih0 _ _ _ _
      | exact ih1 _ _ _ _
      | exact ballot_List.mono _ _
      | exact ballot_Meet.mono _ _ _
      | exact ballot_With.mono _ _ _
      | exact catenaryref04_Same.mono _ _ _
      | exact catenaryref07_Enough.mono _ _ _
      | exact catenaryref07_Has.mono _ _ _
      | exact catenaryref07_List.mono _ _
      | exact catenaryref07_Meet.mono _ _ _
      | exact catenaryref07_With.mono _ _ _
      | exact LeO.none _
      | refine LeO.ite ?_ ?_
      | refine LeO.bind ?_ (fun _ => ?_)
set_option maxHeartbeats 8000000 in
set_option maxRecDepth 100000 in
theorem catenarylaw07_BallotSets.calls (k : Nat) (a0 : Int) (a1 : Int) (A2 : Option Addr) (c2 : Nat) (l2 : List Int) (r : Bool) (w : World) (hr2 : Kd.C (Kd.int .i64) w A2 l2.length l2) (hc2 : l2.length ≤ c2) (h : catenarylaw07_BallotSets.f k a0 a1 l2 = some r) :
    Calls Try.prog 6 #[.int .u64 a0, .int .u64 a1, .slice A2 l2.length c2] w fun e w' => e = .returned (.bool r) ∧ Below w.heap.size w w' := by
  have HR2 := Aside0.mk hr2
  have HC2 := Aside0.mk hc2
  clear hr2 hc2
  have HB := Aside0.mk (Below.refl w.heap.size w)
  have H : (if (l2.length : Int) > 40 then ((catenarylaw07_awake.f).bind fun t149 => (some t149)) else (if (l2.length : Int) > 0 then (if 0 < (l2.length : Int) then (catenarylaw07_BallotSets.j0 k a0 a1 l2 (rd l2 0)) else (none)) else (catenarylaw07_BallotSets.j0 k a0 a1 l2 0))) = some r := h
  clear h
  by_cases c4 : (l2.length : Int) > 40
  · rw [if_pos c4] at H
    have c4b0 : decide (40 < (l2.length : Int)) = true := decide_eq_true c4
    have c4b1 : decide (40 < l2.length) = true := decide_eq_true (by omega)
    clear c4
    replace H := Option.bind_eq_some_iff.mp H
    obtain ⟨t149, A50, H⟩ := H
    replace H : (some t149) = some r := H
    have A5 := Aside0.mk A50
    clear A50
    obtain rfl := Option.some.inj H
    go_enter Try.func6, Try.ntmps6
    go_wp2_with (first | ((with_reducible refine gate_callee (f := 10) rfl ?_); refine goesL_ (some 11) rfl rfl Try.func10 (by kernel_rfl) rfl #[] rfl (by (try simp only [List.map_toArray, List.map_cons, List.map_nil]); first | done | rfl | (simp only [List.length_drop, List.length_take]; rfl)) ?_; (with_reducible refine (catenarylaw07_awake.calls  t149 _ A5.out).mono ?_); rintro e w6 ⟨rfl, hb⟩; refine ⟨_, rfl, ?_⟩; have n0_ := Aside0.mk (below_step (by repeat (first | (with_reducible first | exact HB.out | apply below_alloc | apply pw_below_drewN | apply below_drew1) | exact HB.out)) hb); clear HB; have HB := n0_; clear n0_; (try clear hb); (try clear hb2); (try clear hk); (try clear hi)))
    go_ret
    exact ⟨by first | rfl | (simp [errW_none, errW_some] <;> rfl) | (simp [*, errW_none, errW_some] <;> rfl), by repeat (first | (with_reducible first | exact HB.out | apply below_alloc | apply pw_below_drewN | apply below_drew1) | exact HB.out)⟩
  · rw [if_neg c4] at H
    have c4b0 : decide (40 < (l2.length : Int)) = false := decide_eq_false c4
    have c4b1 : decide (40 < l2.length) = false := decide_eq_false (by omega)
    clear c4
    have HC7 := Aside0.mk H
    clear H
    go_enter Try.func6, Try.ntmps6
    go_upto_if 14 with (fail)
    go_cut [7] (fun v7 wc => ∃ (kq : Nat) (x7_6 : Int), v7 = .int .i64 x7_6 ∧ Aside0 (catenarylaw07_BallotSets.j0 kq a0 a1 l2 x7_6 = some r) ∧ Aside0 (kq ≤ k) ∧ Aside0 (Below w.heap.size w wc))
    case first =>
      have H := HC7.out
      clear HC7
      by_cases c8 : (l2.length : Int) > 0
      · rw [if_pos c8] at H
        have c8b0 : decide (0 < (l2.length : Int)) = true := decide_eq_true c8
        have c8b1 : decide (0 < l2.length) = true := decide_eq_true (by omega)
        clear c8
        (first | rw [c8b0] | (simp only [i64_w, i32_w]; rw [c8b0]) | skip)
        by_cases c9 : 0 < (l2.length : Int)
        · rw [if_pos c9] at H
          have c9b0 : decide (0 < (l2.length : Int)) = true := decide_eq_true c9
          have c9b1 : decide (0 < l2.length) = true := decide_eq_true (by omega)
          clear c9
          have H' := Aside0.mk H
          clear H
          have p150 : 0 ≤ (0 : Int) := (by omega)
          have q150 : 0 < (l2.length : Int) := of_decide_eq_true (by first | (with_reducible assumption) | assumption)
          obtain ⟨ad150, e150, hx150_0⟩ := Kd.at_int HR2.out 0 p150 q150
          cases e150
          have qi150 : (0 < l2.length) = True := eq_true (by omega)
          (try rw [show ((0 : Int)).toNat = 0 from rfl] at hx150_0)
          (try rw [Addr.add_zero'] at hx150_0)
          replace hx150_0 := (HB.out.cell (World.block_lt_of_cell? w _ hx150_0)).trans hx150_0
          replace p150 := eq_true p150
          replace q150 := eq_true q150
          go_wp2
          all_goals first | (have hx : ¬ 0 < l2.length := (by assumption); exact absurd (of_decide_eq_true c8b1) hx) | skip
          go_meet
          case rel => exact ⟨_, (rd l2 0), (by first | rfl | (simp; done) | (simp [*]; done)), H', ⟨by first | omega | exact Nat.le_refl _⟩, ⟨by repeat (first | (with_reducible first | exact HB.out | apply below_alloc | apply pw_below_drewN | apply below_drew1) | exact HB.out)⟩⟩
        · rw [if_neg c9] at H
          exact absurd H (by simp)
      · rw [if_neg c8] at H
        have c8b0 : decide (0 < (l2.length : Int)) = false := decide_eq_false c8
        have c8b1 : decide (0 < l2.length) = false := decide_eq_false (by omega)
        clear c8
        (first | rw [c8b0] | (simp only [i64_w, i32_w]; rw [c8b0]) | skip)
        have H' := Aside0.mk H
        clear H
        go_wp2
        all_goals first | (have hx : 0 < l2.length := (by assumption); exact absurd hx (of_decide_eq_false c8b1)) | skip
        go_meet
        case rel => exact ⟨_, (0), (by first | rfl | (simp; done) | (simp [*]; done)), H', ⟨by first | omega | exact Nat.le_refl _⟩, ⟨by repeat (first | (with_reducible first | exact HB.out | apply below_alloc | apply pw_below_drewN | apply below_drew1) | exact HB.out)⟩⟩
    case rest =>
      clear HC7
      try clear c1
      try clear p1
      try clear q1
      try clear hx1
      try clear qi1
      try clear c2
      try clear p2
      try clear c4
      try clear c4b0
      try clear c4b1
      try clear c6
      try clear c8
      try clear c8b0
      try clear c8b1
      try clear c9
      try clear c9b0
      try clear c9b1
      try clear hx150_0
      try clear p150
      try clear q150
      obtain ⟨kq, x7_6, rfl, HA, HJ6, HB⟩ := hcut
      cases kq with
      | zero => exact absurd HA.out (by simp [catenarylaw07_BallotSets.j0])
      | succ kj6 =>
        have H := HA.out
        clear HA
        simp only [catenarylaw07_BallotSets.j0] at H
        have HC10 := Aside0.mk H
        clear H
        go_upto_region 6 with (fail)
        go_cut [49] (fun v49 wc => ∃ (kq : Nat) (x49_9 : Bool), v49 = .bool x49_9 ∧ Aside0 (catenarylaw07_BallotSets.j1 kq a0 a1 x7_6 x49_9 = some r) ∧ Aside0 (kq ≤ kj6) ∧ Aside0 (Below w.heap.size w wc))
        case first =>
          have H := HC10.out
          clear HC10
          replace H := Option.bind_eq_some_iff.mp H
          obtain ⟨t151, A110, H⟩ := H
          replace H : ((catenaryref07_With.f kj6 a0 l2).bind fun t152 => (if t151 = t152 then ((ballot_Has.f a0 x7_6).bind fun t153 => ((catenaryref07_Has.f kj6 a0 x7_6).bind fun t154 => (if (t153 != t154) = true then (catenarylaw07_BallotSets.j1 kj6 a0 a1 x7_6 true) else ((ballot_List.f kj6 a0).bind fun t155 => ((catenaryref07_List.f kj6 a0).bind fun t158 => ((catenaryref04_Same.f kj6 t155 t158).bind fun t161 => (if t161 = true then ((ballot_Count.f a0).bind fun t162 => ((catenaryref07_List.f kj6 a0).bind fun t163 => (catenarylaw07_BallotSets.j1 kj6 a0 a1 x7_6 (t162 != (t163.length : Int))))) else (catenarylaw07_BallotSets.j1 kj6 a0 a1 x7_6 true)))))))) else (catenarylaw07_BallotSets.j1 kj6 a0 a1 x7_6 true))) = some r := H
          have A11 := Aside0.mk A110
          clear A110
          replace H := Option.bind_eq_some_iff.mp H
          obtain ⟨t152, A120, H⟩ := H
          replace H : (if t151 = t152 then ((ballot_Has.f a0 x7_6).bind fun t153 => ((catenaryref07_Has.f kj6 a0 x7_6).bind fun t154 => (if (t153 != t154) = true then (catenarylaw07_BallotSets.j1 kj6 a0 a1 x7_6 true) else ((ballot_List.f kj6 a0).bind fun t155 => ((catenaryref07_List.f kj6 a0).bind fun t158 => ((catenaryref04_Same.f kj6 t155 t158).bind fun t161 => (if t161 = true then ((ballot_Count.f a0).bind fun t162 => ((catenaryref07_List.f kj6 a0).bind fun t163 => (catenarylaw07_BallotSets.j1 kj6 a0 a1 x7_6 (t162 != (t163.length : Int))))) else (catenarylaw07_BallotSets.j1 kj6 a0 a1 x7_6 true)))))))) else (catenarylaw07_BallotSets.j1 kj6 a0 a1 x7_6 true)) = some r := H
          have A12 := Aside0.mk A120
          clear A120
          by_cases c13 : t151 = t152
          · rw [if_pos c13] at H
            have c13b0 : (t151 == t152) = true := beq_iff_eq.mpr c13
            have c13b1 : (t151 != t152) = false := bne_eq_false_iff_eq.mpr c13
            clear c13
            (first | rw [c13b0] | (simp only [i64_w, i32_w]; rw [c13b0]) | skip)
            replace H := Option.bind_eq_some_iff.mp H
            obtain ⟨t153, A140, H⟩ := H
            replace H : ((catenaryref07_Has.f kj6 a0 x7_6).bind fun t154 => (if (t153 != t154) = true then (catenarylaw07_BallotSets.j1 kj6 a0 a1 x7_6 true) else ((ballot_List.f kj6 a0).bind fun t155 => ((catenaryref07_List.f kj6 a0).bind fun t158 => ((catenaryref04_Same.f kj6 t155 t158).bind fun t161 => (if t161 = true then ((ballot_Count.f a0).bind fun t162 => ((catenaryref07_List.f kj6 a0).bind fun t163 => (catenarylaw07_BallotSets.j1 kj6 a0 a1 x7_6 (t162 != (t163.length : Int))))) else (catenarylaw07_BallotSets.j1 kj6 a0 a1 x7_6 true))))))) = some r := H
            have A14 := Aside0.mk A140
            clear A140
            replace H := Option.bind_eq_some_iff.mp H
            obtain ⟨t154, A150, H⟩ := H
            replace H : (if (t153 != t154) = true then (catenarylaw07_BallotSets.j1 kj6 a0 a1 x7_6 true) else ((ballot_List.f kj6 a0).bind fun t155 => ((catenaryref07_List.f kj6 a0).bind fun t158 => ((catenaryref04_Same.f kj6 t155 t158).bind fun t161 => (if t161 = true then ((ballot_Count.f a0).bind fun t162 => ((catenaryref07_List.f kj6 a0).bind fun t163 => (catenarylaw07_BallotSets.j1 kj6 a0 a1 x7_6 (t162 != (t163.length : Int))))) else (catenarylaw07_BallotSets.j1 kj6 a0 a1 x7_6 true)))))) = some r := H
            have A15 := Aside0.mk A150
            clear A150
            by_cases c16 : (t153 != t154) = true
            · rw [if_pos c16] at H
              have c16b0 : (t153 != t154) = true := c16
              (try (have c16b1 : decide (t153 = t154) = false := by simpa using c16))
              (try (have c16b2 : (t153 == t154) = false := by simpa using c16))
              (try (have c16b3 : ¬ (t153 = t154) := by simpa using c16))
              clear c16
              have H' := Aside0.mk H
              clear H
              go_wp2_with (first | ((with_reducible refine gate_callee (f := 20) rfl ?_); refine goesL_ (some 20) rfl rfl Try.func20 (by kernel_rfl) rfl #[.int .u64 a0, .slice A2 l2.length c2] rfl (by (try simp only [List.map_toArray, List.map_cons, List.map_nil]); first | done | rfl | (simp only [List.length_drop, List.length_take]; rfl)) ?_; (with_reducible refine (ballot_With.calls kj6 a0 _ _ l2 t151 _ ?side1 ?side2 A11.out).mono ?_); (case side1 => repeat (first | exact (Kd.C_below HR2.out HB.out) | (with_reducible refine Kd.C_alloc ?_ _) | (with_reducible refine Kd.C_drewN ?_ _) | (with_reducible refine Kd.C_drew ?_))); (case side2 => exact HC2.out); rintro e w' ⟨rfl, ⟨nd, rfl⟩⟩; refine ⟨_, rfl, ?_⟩) | ((with_reducible refine gate_callee (f := 21) rfl ?_); refine goesL_ (some 23) rfl rfl Try.func21 (by kernel_rfl) rfl #[.int .u64 a0, .slice A2 l2.length c2] rfl (by (try simp only [List.map_toArray, List.map_cons, List.map_nil]); first | done | rfl | (simp only [List.length_drop, List.length_take]; rfl)) ?_; (with_reducible refine (catenaryref07_With.calls kj6 a0 _ _ l2 t152 _ ?side1 ?side2 A12.out).mono ?_); (case side1 => repeat (first | exact (Kd.C_below HR2.out (by repeat (first | (with_reducible first | exact HB.out | apply below_alloc | apply pw_below_drewN | apply below_drew1) | exact HB.out))) | (with_reducible refine Kd.C_alloc ?_ _) | (with_reducible refine Kd.C_drewN ?_ _) | (with_reducible refine Kd.C_drew ?_))); (case side2 => exact HC2.out); rintro e w17 ⟨rfl, hb⟩; refine ⟨_, rfl, ?_⟩; have n0_ := Aside0.mk (below_step (by repeat (first | (with_reducible first | exact HB.out | apply below_alloc | apply pw_below_drewN | apply below_drew1) | exact HB.out)) hb); clear HB; have HB := n0_; clear n0_; (try clear hb); (try clear hb2); (try clear hk); (try clear hi)) | (go_at_call 22; (with_reducible refine (ballot_Has.calls a0 x7_6 t153 _ A14.out).mono ?_); rintro e w' ⟨rfl, ⟨nd, rfl⟩⟩) | (go_at_call 23; (with_reducible refine (catenaryref07_Has.calls kj6 a0 x7_6 t154 _ A15.out).mono ?_); rintro e w' ⟨rfl, ⟨nd, rfl⟩⟩))
              go_meet
              case rel => exact ⟨_, (true), (by first | rfl | (simp; done) | (simp [*]; done)), H', ⟨by have := HJ6.out; first | omega | exact Nat.le_refl _⟩, ⟨by repeat (first | (with_reducible first | exact HB.out | apply below_alloc | apply pw_below_drewN | apply below_drew1) | exact HB.out)⟩⟩
            · rw [if_neg c16] at H
              have c16b0 : (t153 != t154) = false := by simpa using c16
              (try (have c16b1 : decide (t153 = t154) = true := by simpa using c16))
              (try (have c16b2 : (t153 == t154) = true := by simpa using c16))
              clear c16
              replace H := Option.bind_eq_some_iff.mp H
              obtain ⟨t155, A180, H⟩ := H
              replace H : ((catenaryref07_List.f kj6 a0).bind fun t158 => ((catenaryref04_Same.f kj6 t155 t158).bind fun t161 => (if t161 = true then ((ballot_Count.f a0).bind fun t162 => ((catenaryref07_List.f kj6 a0).bind fun t163 => (catenarylaw07_BallotSets.j1 kj6 a0 a1 x7_6 (t162 != (t163.length : Int))))) else (catenarylaw07_BallotSets.j1 kj6 a0 a1 x7_6 true)))) = some r := H
              have A18 := Aside0.mk A180
              clear A180
              replace H := Option.bind_eq_some_iff.mp H
              obtain ⟨t158, A190, H⟩ := H
              replace H : ((catenaryref04_Same.f kj6 t155 t158).bind fun t161 => (if t161 = true then ((ballot_Count.f a0).bind fun t162 => ((catenaryref07_List.f kj6 a0).bind fun t163 => (catenarylaw07_BallotSets.j1 kj6 a0 a1 x7_6 (t162 != (t163.length : Int))))) else (catenarylaw07_BallotSets.j1 kj6 a0 a1 x7_6 true))) = some r := H
              have A19 := Aside0.mk A190
              clear A190
              replace H := Option.bind_eq_some_iff.mp H
              obtain ⟨t161, A200, H⟩ := H
              replace H : (if t161 = true then ((ballot_Count.f a0).bind fun t162 => ((catenaryref07_List.f kj6 a0).bind fun t163 => (catenarylaw07_BallotSets.j1 kj6 a0 a1 x7_6 (t162 != (t163.length : Int))))) else (catenarylaw07_BallotSets.j1 kj6 a0 a1 x7_6 true)) = some r := H
              have A20 := Aside0.mk A200
              clear A200
              by_cases c21 : t161 = true
              · subst c21
                have H1 : ((ballot_Count.f a0).bind fun t162 => ((catenaryref07_List.f kj6 a0).bind fun t163 => (catenarylaw07_BallotSets.j1 kj6 a0 a1 x7_6 (t162 != (t163.length : Int))))) = some r := by rw [if_pos rfl] at H; exact H
                clear H
                have H := H1
                clear H1
                replace H := Option.bind_eq_some_iff.mp H
                obtain ⟨t162, A220, H⟩ := H
                replace H : ((catenaryref07_List.f kj6 a0).bind fun t163 => (catenarylaw07_BallotSets.j1 kj6 a0 a1 x7_6 (t162 != (t163.length : Int)))) = some r := H
                have A22 := Aside0.mk A220
                clear A220
                replace H := Option.bind_eq_some_iff.mp H
                obtain ⟨t163, A230, H⟩ := H
                replace H : (catenarylaw07_BallotSets.j1 kj6 a0 a1 x7_6 (t162 != (t163.length : Int))) = some r := H
                have A23 := Aside0.mk A230
                clear A230
                have H' := Aside0.mk H
                clear H
                go_wp2_with (first | ((with_reducible refine gate_callee (f := 20) rfl ?_); refine goesL_ (some 20) rfl rfl Try.func20 (by kernel_rfl) rfl #[.int .u64 a0, .slice A2 l2.length c2] rfl (by (try simp only [List.map_toArray, List.map_cons, List.map_nil]); first | done | rfl | (simp only [List.length_drop, List.length_take]; rfl)) ?_; (with_reducible refine (ballot_With.calls kj6 a0 _ _ l2 t151 _ ?side1 ?side2 A11.out).mono ?_); (case side1 => repeat (first | exact (Kd.C_below HR2.out HB.out) | (with_reducible refine Kd.C_alloc ?_ _) | (with_reducible refine Kd.C_drewN ?_ _) | (with_reducible refine Kd.C_drew ?_))); (case side2 => exact HC2.out); rintro e w' ⟨rfl, ⟨nd, rfl⟩⟩; refine ⟨_, rfl, ?_⟩) | ((with_reducible refine gate_callee (f := 21) rfl ?_); refine goesL_ (some 23) rfl rfl Try.func21 (by kernel_rfl) rfl #[.int .u64 a0, .slice A2 l2.length c2] rfl (by (try simp only [List.map_toArray, List.map_cons, List.map_nil]); first | done | rfl | (simp only [List.length_drop, List.length_take]; rfl)) ?_; (with_reducible refine (catenaryref07_With.calls kj6 a0 _ _ l2 t152 _ ?side1 ?side2 A12.out).mono ?_); (case side1 => repeat (first | exact (Kd.C_below HR2.out (by repeat (first | (with_reducible first | exact HB.out | apply below_alloc | apply pw_below_drewN | apply below_drew1) | exact HB.out))) | (with_reducible refine Kd.C_alloc ?_ _) | (with_reducible refine Kd.C_drewN ?_ _) | (with_reducible refine Kd.C_drew ?_))); (case side2 => exact HC2.out); rintro e w24 ⟨rfl, hb⟩; refine ⟨_, rfl, ?_⟩; have n0_ := Aside0.mk (below_step (by repeat (first | (with_reducible first | exact HB.out | apply below_alloc | apply pw_below_drewN | apply below_drew1) | exact HB.out)) hb); clear HB; have HB := n0_; clear n0_; (try clear hb); (try clear hb2); (try clear hk); (try clear hi)) | (go_at_call 22; (with_reducible refine (ballot_Has.calls a0 x7_6 t153 _ A14.out).mono ?_); rintro e w' ⟨rfl, ⟨nd, rfl⟩⟩) | (go_at_call 23; (with_reducible refine (catenaryref07_Has.calls kj6 a0 x7_6 t154 _ A15.out).mono ?_); rintro e w' ⟨rfl, ⟨nd, rfl⟩⟩) | (go_at_call 25; (with_reducible refine (ballot_List.calls kj6 a0 t155 _ A18.out).mono ?_); rintro e w25 ⟨v156, rfl, ho0, hb⟩; have n0_ := Aside0.mk (Kd.R_lower ho0 (below_size (by repeat (first | (with_reducible first | exact HB.out | apply below_alloc | apply pw_below_drewN | apply below_drew1) | exact HB.out)))); have n1_ := Aside0.mk (below_step (by repeat (first | (with_reducible first | exact HB.out | apply below_alloc | apply pw_below_drewN | apply below_drew1) | exact HB.out)) hb); clear HB; have HO157 := n0_; have HB := n1_; clear n0_ n1_; (try clear hb); (try clear hb2); (try clear hk); (try clear hi); (try clear ho0)) | (go_at_call 26; (with_reducible refine (catenaryref07_List.calls kj6 a0 t158 _ A19.out).mono ?_); rintro e w26 ⟨v159, rfl, ho0, hb⟩; have n0_ := Aside0.mk (Kd.R_elder' (by (with_reducible repeat (first | apply Kd.R_alloc | apply Kd.R_drewN | apply Kd.R_drew)); exact HO157.out) (Kd.R_base ho0) hb); have n1_ := Aside0.mk (Kd.R_lower (Kd.R_new' ho0 (Kd.R_lt (by (with_reducible repeat (first | apply Kd.R_alloc | apply Kd.R_drewN | apply Kd.R_drew)); exact HO157.out))) (below_size (by repeat (first | (with_reducible first | exact HB.out | apply below_alloc | apply pw_below_drewN | apply below_drew1) | exact HB.out)))); have n2_ := Aside0.mk (below_step (by repeat (first | (with_reducible first | exact HB.out | apply below_alloc | apply pw_below_drewN | apply below_drew1) | exact HB.out)) hb); clear HO157; clear HB; have HO157 := n0_; have HO160 := n1_; have HB := n2_; clear n0_ n1_ n2_; (try clear hb); (try clear hb2); (try clear hk); (try clear hi); (try clear ho0); obtain ⟨Ao27, co27, eo27⟩ := Kd.R_slice HO157.out; subst eo27; obtain ⟨Ao28, co28, eo28⟩ := Kd.R_slice HO160.out; subst eo28) | (go_at_call 24; (with_reducible refine (catenaryref04_Same.calls kj6 _ _ t155 _ _ t158 true _ ?side1 ?side2 ?side3 ?side4 A20.out).mono ?_); (case side1 => repeat (first | exact (Kd.R_reads' HO157.out).2.2 | (with_reducible refine Kd.C_alloc ?_ _) | (with_reducible refine Kd.C_drewN ?_ _) | (with_reducible refine Kd.C_drew ?_))); (case side2 => exact (Kd.R_reads' HO157.out).2.1); (case side3 => repeat (first | exact (Kd.R_reads' HO160.out).2.2 | (with_reducible refine Kd.C_alloc ?_ _) | (with_reducible refine Kd.C_drewN ?_ _) | (with_reducible refine Kd.C_drew ?_))); (case side4 => exact (Kd.R_reads' HO160.out).2.1); rintro e w' ⟨rfl, ⟨nd, rfl⟩⟩) | (go_at_call 27; (with_reducible refine (ballot_Count.calls a0 t162 _ A22.out).mono ?_); rintro e w' ⟨rfl, ⟨nd, rfl⟩⟩) | (go_at_call 26; (with_reducible refine (catenaryref07_List.calls kj6 a0 t163 _ A23.out).mono ?_); rintro e w29 ⟨v164, rfl, ho0, hb⟩; have n0_ := Aside0.mk (Kd.R_elder' (by (with_reducible repeat (first | apply Kd.R_alloc | apply Kd.R_drewN | apply Kd.R_drew)); exact HO157.out) (Kd.R_base ho0) hb); have n1_ := Aside0.mk (Kd.R_elder' (by (with_reducible repeat (first | apply Kd.R_alloc | apply Kd.R_drewN | apply Kd.R_drew)); exact HO160.out) (Kd.R_base ho0) hb); have n2_ := Aside0.mk (Kd.R_lower (Kd.R_new' (Kd.R_new' ho0 (Kd.R_lt (by (with_reducible repeat (first | apply Kd.R_alloc | apply Kd.R_drewN | apply Kd.R_drew)); exact HO157.out))) (Kd.R_lt (by (with_reducible repeat (first | apply Kd.R_alloc | apply Kd.R_drewN | apply Kd.R_drew)); exact HO160.out))) (below_size (by repeat (first | (with_reducible first | exact HB.out | apply below_alloc | apply pw_below_drewN | apply below_drew1) | exact HB.out)))); have n3_ := Aside0.mk (below_step (by repeat (first | (with_reducible first | exact HB.out | apply below_alloc | apply pw_below_drewN | apply below_drew1) | exact HB.out)) hb); clear HO157; clear HO160; clear HB; have HO157 := n0_; have HO160 := n1_; have HO165 := n2_; have HB := n3_; clear n0_ n1_ n2_ n3_; (try clear hb); (try clear hb2); (try clear hk); (try clear hi); (try clear ho0); obtain ⟨Ao30, co30, eo30⟩ := Kd.R_slice HO165.out; subst eo30))
                go_meet
                case rel => exact ⟨_, ((t162 != (t163.length : Int))), (by first | rfl | (simp; done) | (simp [*]; done)), H', ⟨by have := HJ6.out; first | omega | exact Nat.le_refl _⟩, ⟨by repeat (first | (with_reducible first | exact HB.out | apply below_alloc | apply pw_below_drewN | apply below_drew1) | exact HB.out)⟩⟩
              · replace c21 := Bool.eq_false_iff.mpr c21
                subst c21
                have H1 : (catenarylaw07_BallotSets.j1 kj6 a0 a1 x7_6 true) = some r := by rw [if_neg (show ¬ (false = true) by decide)] at H; exact H
                clear H
                have H := H1
                clear H1
                have H' := Aside0.mk H
                clear H
                go_wp2_with (first | ((with_reducible refine gate_callee (f := 20) rfl ?_); refine goesL_ (some 20) rfl rfl Try.func20 (by kernel_rfl) rfl #[.int .u64 a0, .slice A2 l2.length c2] rfl (by (try simp only [List.map_toArray, List.map_cons, List.map_nil]); first | done | rfl | (simp only [List.length_drop, List.length_take]; rfl)) ?_; (with_reducible refine (ballot_With.calls kj6 a0 _ _ l2 t151 _ ?side1 ?side2 A11.out).mono ?_); (case side1 => repeat (first | exact (Kd.C_below HR2.out HB.out) | (with_reducible refine Kd.C_alloc ?_ _) | (with_reducible refine Kd.C_drewN ?_ _) | (with_reducible refine Kd.C_drew ?_))); (case side2 => exact HC2.out); rintro e w' ⟨rfl, ⟨nd, rfl⟩⟩; refine ⟨_, rfl, ?_⟩) | ((with_reducible refine gate_callee (f := 21) rfl ?_); refine goesL_ (some 23) rfl rfl Try.func21 (by kernel_rfl) rfl #[.int .u64 a0, .slice A2 l2.length c2] rfl (by (try simp only [List.map_toArray, List.map_cons, List.map_nil]); first | done | rfl | (simp only [List.length_drop, List.length_take]; rfl)) ?_; (with_reducible refine (catenaryref07_With.calls kj6 a0 _ _ l2 t152 _ ?side1 ?side2 A12.out).mono ?_); (case side1 => repeat (first | exact (Kd.C_below HR2.out (by repeat (first | (with_reducible first | exact HB.out | apply below_alloc | apply pw_below_drewN | apply below_drew1) | exact HB.out))) | (with_reducible refine Kd.C_alloc ?_ _) | (with_reducible refine Kd.C_drewN ?_ _) | (with_reducible refine Kd.C_drew ?_))); (case side2 => exact HC2.out); rintro e w31 ⟨rfl, hb⟩; refine ⟨_, rfl, ?_⟩; have n0_ := Aside0.mk (below_step (by repeat (first | (with_reducible first | exact HB.out | apply below_alloc | apply pw_below_drewN | apply below_drew1) | exact HB.out)) hb); clear HB; have HB := n0_; clear n0_; (try clear hb); (try clear hb2); (try clear hk); (try clear hi)) | (go_at_call 22; (with_reducible refine (ballot_Has.calls a0 x7_6 t153 _ A14.out).mono ?_); rintro e w' ⟨rfl, ⟨nd, rfl⟩⟩) | (go_at_call 23; (with_reducible refine (catenaryref07_Has.calls kj6 a0 x7_6 t154 _ A15.out).mono ?_); rintro e w' ⟨rfl, ⟨nd, rfl⟩⟩) | (go_at_call 25; (with_reducible refine (ballot_List.calls kj6 a0 t155 _ A18.out).mono ?_); rintro e w32 ⟨v156, rfl, ho0, hb⟩; have n0_ := Aside0.mk (Kd.R_lower ho0 (below_size (by repeat (first | (with_reducible first | exact HB.out | apply below_alloc | apply pw_below_drewN | apply below_drew1) | exact HB.out)))); have n1_ := Aside0.mk (below_step (by repeat (first | (with_reducible first | exact HB.out | apply below_alloc | apply pw_below_drewN | apply below_drew1) | exact HB.out)) hb); clear HB; have HO157 := n0_; have HB := n1_; clear n0_ n1_; (try clear hb); (try clear hb2); (try clear hk); (try clear hi); (try clear ho0)) | (go_at_call 26; (with_reducible refine (catenaryref07_List.calls kj6 a0 t158 _ A19.out).mono ?_); rintro e w33 ⟨v159, rfl, ho0, hb⟩; have n0_ := Aside0.mk (Kd.R_elder' (by (with_reducible repeat (first | apply Kd.R_alloc | apply Kd.R_drewN | apply Kd.R_drew)); exact HO157.out) (Kd.R_base ho0) hb); have n1_ := Aside0.mk (Kd.R_lower (Kd.R_new' ho0 (Kd.R_lt (by (with_reducible repeat (first | apply Kd.R_alloc | apply Kd.R_drewN | apply Kd.R_drew)); exact HO157.out))) (below_size (by repeat (first | (with_reducible first | exact HB.out | apply below_alloc | apply pw_below_drewN | apply below_drew1) | exact HB.out)))); have n2_ := Aside0.mk (below_step (by repeat (first | (with_reducible first | exact HB.out | apply below_alloc | apply pw_below_drewN | apply below_drew1) | exact HB.out)) hb); clear HO157; clear HB; have HO157 := n0_; have HO160 := n1_; have HB := n2_; clear n0_ n1_ n2_; (try clear hb); (try clear hb2); (try clear hk); (try clear hi); (try clear ho0); obtain ⟨Ao34, co34, eo34⟩ := Kd.R_slice HO157.out; subst eo34; obtain ⟨Ao35, co35, eo35⟩ := Kd.R_slice HO160.out; subst eo35) | (go_at_call 24; (with_reducible refine (catenaryref04_Same.calls kj6 _ _ t155 _ _ t158 false _ ?side1 ?side2 ?side3 ?side4 A20.out).mono ?_); (case side1 => repeat (first | exact (Kd.R_reads' HO157.out).2.2 | (with_reducible refine Kd.C_alloc ?_ _) | (with_reducible refine Kd.C_drewN ?_ _) | (with_reducible refine Kd.C_drew ?_))); (case side2 => exact (Kd.R_reads' HO157.out).2.1); (case side3 => repeat (first | exact (Kd.R_reads' HO160.out).2.2 | (with_reducible refine Kd.C_alloc ?_ _) | (with_reducible refine Kd.C_drewN ?_ _) | (with_reducible refine Kd.C_drew ?_))); (case side4 => exact (Kd.R_reads' HO160.out).2.1); rintro e w' ⟨rfl, ⟨nd, rfl⟩⟩))
                go_meet
                case rel => exact ⟨_, (true), (by first | rfl | (simp; done) | (simp [*]; done)), H', ⟨by have := HJ6.out; first | omega | exact Nat.le_refl _⟩, ⟨by repeat (first | (with_reducible first | exact HB.out | apply below_alloc | apply pw_below_drewN | apply below_drew1) | exact HB.out)⟩⟩
          · rw [if_neg c13] at H
            have c13b0 : (t151 == t152) = false := beq_eq_false_iff_ne.mpr c13
            have c13b1 : (t151 != t152) = true := bne_iff_ne.mpr c13
            (first | rw [c13b0] | (simp only [i64_w, i32_w]; rw [c13b0]) | skip)
            have H' := Aside0.mk H
            clear H
            go_wp2_with (first | ((with_reducible refine gate_callee (f := 20) rfl ?_); refine goesL_ (some 20) rfl rfl Try.func20 (by kernel_rfl) rfl #[.int .u64 a0, .slice A2 l2.length c2] rfl (by (try simp only [List.map_toArray, List.map_cons, List.map_nil]); first | done | rfl | (simp only [List.length_drop, List.length_take]; rfl)) ?_; (with_reducible refine (ballot_With.calls kj6 a0 _ _ l2 t151 _ ?side1 ?side2 A11.out).mono ?_); (case side1 => repeat (first | exact (Kd.C_below HR2.out HB.out) | (with_reducible refine Kd.C_alloc ?_ _) | (with_reducible refine Kd.C_drewN ?_ _) | (with_reducible refine Kd.C_drew ?_))); (case side2 => exact HC2.out); rintro e w' ⟨rfl, ⟨nd, rfl⟩⟩; refine ⟨_, rfl, ?_⟩) | ((with_reducible refine gate_callee (f := 21) rfl ?_); refine goesL_ (some 23) rfl rfl Try.func21 (by kernel_rfl) rfl #[.int .u64 a0, .slice A2 l2.length c2] rfl (by (try simp only [List.map_toArray, List.map_cons, List.map_nil]); first | done | rfl | (simp only [List.length_drop, List.length_take]; rfl)) ?_; (with_reducible refine (catenaryref07_With.calls kj6 a0 _ _ l2 t152 _ ?side1 ?side2 A12.out).mono ?_); (case side1 => repeat (first | exact (Kd.C_below HR2.out (by repeat (first | (with_reducible first | exact HB.out | apply below_alloc | apply pw_below_drewN | apply below_drew1) | exact HB.out))) | (with_reducible refine Kd.C_alloc ?_ _) | (with_reducible refine Kd.C_drewN ?_ _) | (with_reducible refine Kd.C_drew ?_))); (case side2 => exact HC2.out); rintro e w36 ⟨rfl, hb⟩; refine ⟨_, rfl, ?_⟩; have n0_ := Aside0.mk (below_step (by repeat (first | (with_reducible first | exact HB.out | apply below_alloc | apply pw_below_drewN | apply below_drew1) | exact HB.out)) hb); clear HB; have HB := n0_; clear n0_; (try clear hb); (try clear hb2); (try clear hk); (try clear hi)))
            go_meet
            case rel => exact ⟨_, (true), (by first | rfl | (simp; done) | (simp [*]; done)), H', ⟨by have := HJ6.out; first | omega | exact Nat.le_refl _⟩, ⟨by repeat (first | (with_reducible first | exact HB.out | apply below_alloc | apply pw_below_drewN | apply below_drew1) | exact HB.out)⟩⟩
        case rest =>
          clear HC10
          try clear c1
          try clear p1
          try clear q1
          try clear hx1
          try clear qi1
          try clear c2
          try clear p2
          try clear c4
          try clear c4b0
          try clear c4b1
          try clear c6
          try clear c8
          try clear c8b0
          try clear c8b1
          try clear c9
          try clear c9b0
          try clear c9b1
          try clear c10
          try clear c13
          try clear c13b0
          try clear c13b1
          try clear p15
          try clear q15
          try clear hx15
          try clear qi15
          try clear c16
          try clear c16b0
          try clear c16b1
          try clear c16b2
          try clear c20
          try clear c21
          try clear hx150_0
          try clear p1
          try clear p150
          try clear p2
          try clear q1
          try clear q150
          obtain ⟨kq, x49_9, rfl, HA, HJ9, HB⟩ := hcut
          cases kq with
          | zero => exact absurd HA.out (by simp [catenarylaw07_BallotSets.j1])
          | succ kj9 =>
            have H := HA.out
            clear HA
            simp only [catenarylaw07_BallotSets.j1] at H
            by_cases c37 : x49_9 = true
            · subst c37
              have H1 : (some false) = some r := by rw [if_pos rfl] at H; exact H
              clear H
              have H := H1
              clear H1
              obtain rfl := Option.some.inj H
              go_wp2
              go_ret
              exact ⟨by first | rfl | (simp [errW_none, errW_some] <;> rfl) | (simp [*, errW_none, errW_some] <;> rfl), by repeat (first | (with_reducible first | exact HB.out | apply below_alloc | apply pw_below_drewN | apply below_drew1) | exact HB.out)⟩
            · replace c37 := Bool.eq_false_iff.mpr c37
              subst c37
              have H1 : ((ballot_Quorum.f x7_6).bind fun t166 => ((catenaryref07_Quorum.f x7_6).bind fun t167 => (if t166 = t167 then ((ballot_Enough.f a0 x7_6).bind fun t168 => ((catenaryref07_Enough.f kj9 a0 x7_6).bind fun t169 => (if (t168 == t169) = true then ((ballot_Meet.f kj9 a0 a1).bind fun t170 => ((catenaryref07_Meet.f kj9 a0 a1).bind fun t173 => ((catenaryref04_Same.f kj9 t170 t173).bind fun t176 => (if t176 = true then ((catenarylaw07_awake.f).bind fun t177 => (some t177)) else (some false))))) else (some false)))) else (some false)))) = some r := by rw [if_neg (show ¬ (false = true) by decide)] at H; exact H
              clear H
              have H := H1
              clear H1
              replace H := Option.bind_eq_some_iff.mp H
              obtain ⟨t166, A380, H⟩ := H
              replace H : ((catenaryref07_Quorum.f x7_6).bind fun t167 => (if t166 = t167 then ((ballot_Enough.f a0 x7_6).bind fun t168 => ((catenaryref07_Enough.f kj9 a0 x7_6).bind fun t169 => (if (t168 == t169) = true then ((ballot_Meet.f kj9 a0 a1).bind fun t170 => ((catenaryref07_Meet.f kj9 a0 a1).bind fun t173 => ((catenaryref04_Same.f kj9 t170 t173).bind fun t176 => (if t176 = true then ((catenarylaw07_awake.f).bind fun t177 => (some t177)) else (some false))))) else (some false)))) else (some false))) = some r := H
              have A38 := Aside0.mk A380
              clear A380
              replace H := Option.bind_eq_some_iff.mp H
              obtain ⟨t167, A390, H⟩ := H
              replace H : (if t166 = t167 then ((ballot_Enough.f a0 x7_6).bind fun t168 => ((catenaryref07_Enough.f kj9 a0 x7_6).bind fun t169 => (if (t168 == t169) = true then ((ballot_Meet.f kj9 a0 a1).bind fun t170 => ((catenaryref07_Meet.f kj9 a0 a1).bind fun t173 => ((catenaryref04_Same.f kj9 t170 t173).bind fun t176 => (if t176 = true then ((catenarylaw07_awake.f).bind fun t177 => (some t177)) else (some false))))) else (some false)))) else (some false)) = some r := H
              have A39 := Aside0.mk A390
              clear A390
              by_cases c40 : t166 = t167
              · rw [if_pos c40] at H
                have c40b0 : (t166 == t167) = true := beq_iff_eq.mpr c40
                have c40b1 : (t166 != t167) = false := bne_eq_false_iff_eq.mpr c40
                clear c40
                replace H := Option.bind_eq_some_iff.mp H
                obtain ⟨t168, A410, H⟩ := H
                replace H : ((catenaryref07_Enough.f kj9 a0 x7_6).bind fun t169 => (if (t168 == t169) = true then ((ballot_Meet.f kj9 a0 a1).bind fun t170 => ((catenaryref07_Meet.f kj9 a0 a1).bind fun t173 => ((catenaryref04_Same.f kj9 t170 t173).bind fun t176 => (if t176 = true then ((catenarylaw07_awake.f).bind fun t177 => (some t177)) else (some false))))) else (some false))) = some r := H
                have A41 := Aside0.mk A410
                clear A410
                replace H := Option.bind_eq_some_iff.mp H
                obtain ⟨t169, A420, H⟩ := H
                replace H : (if (t168 == t169) = true then ((ballot_Meet.f kj9 a0 a1).bind fun t170 => ((catenaryref07_Meet.f kj9 a0 a1).bind fun t173 => ((catenaryref04_Same.f kj9 t170 t173).bind fun t176 => (if t176 = true then ((catenarylaw07_awake.f).bind fun t177 => (some t177)) else (some false))))) else (some false)) = some r := H
                have A42 := Aside0.mk A420
                clear A420
                by_cases c43 : (t168 == t169) = true
                · rw [if_pos c43] at H
                  have c43b0 : (t168 == t169) = true := c43
                  (try (have c43b1 : decide (t168 = t169) = true := by simpa using c43))
                  (try (have c43b2 : (t168 == t169) = true := by simpa using c43))
                  clear c43
                  replace H := Option.bind_eq_some_iff.mp H
                  obtain ⟨t170, A440, H⟩ := H
                  replace H : ((catenaryref07_Meet.f kj9 a0 a1).bind fun t173 => ((catenaryref04_Same.f kj9 t170 t173).bind fun t176 => (if t176 = true then ((catenarylaw07_awake.f).bind fun t177 => (some t177)) else (some false)))) = some r := H
                  have A44 := Aside0.mk A440
                  clear A440
                  replace H := Option.bind_eq_some_iff.mp H
                  obtain ⟨t173, A450, H⟩ := H
                  replace H : ((catenaryref04_Same.f kj9 t170 t173).bind fun t176 => (if t176 = true then ((catenarylaw07_awake.f).bind fun t177 => (some t177)) else (some false))) = some r := H
                  have A45 := Aside0.mk A450
                  clear A450
                  replace H := Option.bind_eq_some_iff.mp H
                  obtain ⟨t176, A460, H⟩ := H
                  replace H : (if t176 = true then ((catenarylaw07_awake.f).bind fun t177 => (some t177)) else (some false)) = some r := H
                  have A46 := Aside0.mk A460
                  clear A460
                  by_cases c47 : t176 = true
                  · subst c47
                    have H1 : ((catenarylaw07_awake.f).bind fun t177 => (some t177)) = some r := by rw [if_pos rfl] at H; exact H
                    clear H
                    have H := H1
                    clear H1
                    replace H := Option.bind_eq_some_iff.mp H
                    obtain ⟨t177, A480, H⟩ := H
                    replace H : (some t177) = some r := H
                    have A48 := Aside0.mk A480
                    clear A480
                    obtain rfl := Option.some.inj H
                    go_wp2_with (first | ((with_reducible refine gate_callee (f := 28) rfl ?_); refine goesL_ (some 51) rfl rfl Try.func28 (by kernel_rfl) rfl #[.int .i64 x7_6] rfl (by (try simp only [List.map_toArray, List.map_cons, List.map_nil]); first | done | rfl | (simp only [List.length_drop, List.length_take]; rfl)) ?_; (with_reducible refine (ballot_Quorum.calls x7_6 t166 _ A38.out).mono ?_); rintro e w' ⟨rfl, ⟨nd, rfl⟩⟩; refine ⟨_, rfl, ?_⟩) | ((with_reducible refine gate_callee (f := 29) rfl ?_); refine goesL_ (some 53) rfl rfl Try.func29 (by kernel_rfl) rfl #[.int .i64 x7_6] rfl (by (try simp only [List.map_toArray, List.map_cons, List.map_nil]); first | done | rfl | (simp only [List.length_drop, List.length_take]; rfl)) ?_; (with_reducible refine (catenaryref07_Quorum.calls x7_6 t167 _ A39.out).mono ?_); rintro e w' ⟨rfl, ⟨nd, rfl⟩⟩; refine ⟨_, rfl, ?_⟩) | (go_at_call 18; (with_reducible refine (ballot_Enough.calls a0 x7_6 t168 _ A41.out).mono ?_); rintro e w' ⟨rfl, ⟨nd, rfl⟩⟩) | (go_at_call 30; (with_reducible refine (catenaryref07_Enough.calls kj9 a0 x7_6 t169 _ A42.out).mono ?_); rintro e w' ⟨rfl, ⟨nd, rfl⟩⟩) | (go_at_call 19; (with_reducible refine (ballot_Meet.calls kj9 a0 a1 t170 _ A44.out).mono ?_); rintro e w49 ⟨v171, rfl, ho0, hb⟩; have n0_ := Aside0.mk (Kd.R_lower ho0 (below_size (by repeat (first | (with_reducible first | exact HB.out | apply below_alloc | apply pw_below_drewN | apply below_drew1) | exact HB.out)))); have n1_ := Aside0.mk (below_step (by repeat (first | (with_reducible first | exact HB.out | apply below_alloc | apply pw_below_drewN | apply below_drew1) | exact HB.out)) hb); clear HB; have HO172 := n0_; have HB := n1_; clear n0_ n1_; (try clear hb); (try clear hb2); (try clear hk); (try clear hi); (try clear ho0)) | (go_at_call 31; (with_reducible refine (catenaryref07_Meet.calls kj9 a0 a1 t173 _ A45.out).mono ?_); rintro e w50 ⟨v174, rfl, ho0, hb⟩; have n0_ := Aside0.mk (Kd.R_elder' (by (with_reducible repeat (first | apply Kd.R_alloc | apply Kd.R_drewN | apply Kd.R_drew)); exact HO172.out) (Kd.R_base ho0) hb); have n1_ := Aside0.mk (Kd.R_lower (Kd.R_new' ho0 (Kd.R_lt (by (with_reducible repeat (first | apply Kd.R_alloc | apply Kd.R_drewN | apply Kd.R_drew)); exact HO172.out))) (below_size (by repeat (first | (with_reducible first | exact HB.out | apply below_alloc | apply pw_below_drewN | apply below_drew1) | exact HB.out)))); have n2_ := Aside0.mk (below_step (by repeat (first | (with_reducible first | exact HB.out | apply below_alloc | apply pw_below_drewN | apply below_drew1) | exact HB.out)) hb); clear HO172; clear HB; have HO172 := n0_; have HO175 := n1_; have HB := n2_; clear n0_ n1_ n2_; (try clear hb); (try clear hb2); (try clear hk); (try clear hi); (try clear ho0); obtain ⟨Ao51, co51, eo51⟩ := Kd.R_slice HO172.out; subst eo51; obtain ⟨Ao52, co52, eo52⟩ := Kd.R_slice HO175.out; subst eo52) | (go_at_call 24; (with_reducible refine (catenaryref04_Same.calls kj9 _ _ t170 _ _ t173 true _ ?side1 ?side2 ?side3 ?side4 A46.out).mono ?_); (case side1 => repeat (first | exact (Kd.R_reads' HO172.out).2.2 | (with_reducible refine Kd.C_alloc ?_ _) | (with_reducible refine Kd.C_drewN ?_ _) | (with_reducible refine Kd.C_drew ?_))); (case side2 => exact (Kd.R_reads' HO172.out).2.1); (case side3 => repeat (first | exact (Kd.R_reads' HO175.out).2.2 | (with_reducible refine Kd.C_alloc ?_ _) | (with_reducible refine Kd.C_drewN ?_ _) | (with_reducible refine Kd.C_drew ?_))); (case side4 => exact (Kd.R_reads' HO175.out).2.1); rintro e w' ⟨rfl, ⟨nd, rfl⟩⟩) | (go_at_call 10; (with_reducible refine (catenarylaw07_awake.calls  t177 _ A48.out).mono ?_); rintro e w53 ⟨rfl, hb⟩; have n0_ := Aside0.mk (Kd.R_below (by (with_reducible repeat (first | apply Kd.R_alloc | apply Kd.R_drewN | apply Kd.R_drew)); exact HO172.out) hb); have n1_ := Aside0.mk (Kd.R_below (by (with_reducible repeat (first | apply Kd.R_alloc | apply Kd.R_drewN | apply Kd.R_drew)); exact HO175.out) hb); have n2_ := Aside0.mk (below_step (by repeat (first | (with_reducible first | exact HB.out | apply below_alloc | apply pw_below_drewN | apply below_drew1) | exact HB.out)) hb); clear HO172; clear HO175; clear HB; have HO172 := n0_; have HO175 := n1_; have HB := n2_; clear n0_ n1_ n2_; (try clear hb); (try clear hb2); (try clear hk); (try clear hi)))
                    go_ret
                    exact ⟨by first | rfl | (simp [errW_none, errW_some] <;> rfl) | (simp [*, errW_none, errW_some] <;> rfl), by repeat (first | (with_reducible first | exact HB.out | apply below_alloc | apply pw_below_drewN | apply below_drew1) | exact HB.out)⟩
                  · replace c47 := Bool.eq_false_iff.mpr c47
                    subst c47
                    have H1 : (some false) = some r := by rw [if_neg (show ¬ (false = true) by decide)] at H; exact H
                    clear H
                    have H := H1
                    clear H1
                    obtain rfl := Option.some.inj H
                    go_wp2_with (first | ((with_reducible refine gate_callee (f := 28) rfl ?_); refine goesL_ (some 51) rfl rfl Try.func28 (by kernel_rfl) rfl #[.int .i64 x7_6] rfl (by (try simp only [List.map_toArray, List.map_cons, List.map_nil]); first | done | rfl | (simp only [List.length_drop, List.length_take]; rfl)) ?_; (with_reducible refine (ballot_Quorum.calls x7_6 t166 _ A38.out).mono ?_); rintro e w' ⟨rfl, ⟨nd, rfl⟩⟩; refine ⟨_, rfl, ?_⟩) | ((with_reducible refine gate_callee (f := 29) rfl ?_); refine goesL_ (some 53) rfl rfl Try.func29 (by kernel_rfl) rfl #[.int .i64 x7_6] rfl (by (try simp only [List.map_toArray, List.map_cons, List.map_nil]); first | done | rfl | (simp only [List.length_drop, List.length_take]; rfl)) ?_; (with_reducible refine (catenaryref07_Quorum.calls x7_6 t167 _ A39.out).mono ?_); rintro e w' ⟨rfl, ⟨nd, rfl⟩⟩; refine ⟨_, rfl, ?_⟩) | (go_at_call 18; (with_reducible refine (ballot_Enough.calls a0 x7_6 t168 _ A41.out).mono ?_); rintro e w' ⟨rfl, ⟨nd, rfl⟩⟩) | (go_at_call 30; (with_reducible refine (catenaryref07_Enough.calls kj9 a0 x7_6 t169 _ A42.out).mono ?_); rintro e w' ⟨rfl, ⟨nd, rfl⟩⟩) | (go_at_call 19; (with_reducible refine (ballot_Meet.calls kj9 a0 a1 t170 _ A44.out).mono ?_); rintro e w54 ⟨v171, rfl, ho0, hb⟩; have n0_ := Aside0.mk (Kd.R_lower ho0 (below_size (by repeat (first | (with_reducible first | exact HB.out | apply below_alloc | apply pw_below_drewN | apply below_drew1) | exact HB.out)))); have n1_ := Aside0.mk (below_step (by repeat (first | (with_reducible first | exact HB.out | apply below_alloc | apply pw_below_drewN | apply below_drew1) | exact HB.out)) hb); clear HB; have HO172 := n0_; have HB := n1_; clear n0_ n1_; (try clear hb); (try clear hb2); (try clear hk); (try clear hi); (try clear ho0)) | (go_at_call 31; (with_reducible refine (catenaryref07_Meet.calls kj9 a0 a1 t173 _ A45.out).mono ?_); rintro e w55 ⟨v174, rfl, ho0, hb⟩; have n0_ := Aside0.mk (Kd.R_elder' (by (with_reducible repeat (first | apply Kd.R_alloc | apply Kd.R_drewN | apply Kd.R_drew)); exact HO172.out) (Kd.R_base ho0) hb); have n1_ := Aside0.mk (Kd.R_lower (Kd.R_new' ho0 (Kd.R_lt (by (with_reducible repeat (first | apply Kd.R_alloc | apply Kd.R_drewN | apply Kd.R_drew)); exact HO172.out))) (below_size (by repeat (first | (with_reducible first | exact HB.out | apply below_alloc | apply pw_below_drewN | apply below_drew1) | exact HB.out)))); have n2_ := Aside0.mk (below_step (by repeat (first | (with_reducible first | exact HB.out | apply below_alloc | apply pw_below_drewN | apply below_drew1) | exact HB.out)) hb); clear HO172; clear HB; have HO172 := n0_; have HO175 := n1_; have HB := n2_; clear n0_ n1_ n2_; (try clear hb); (try clear hb2); (try clear hk); (try clear hi); (try clear ho0); obtain ⟨Ao56, co56, eo56⟩ := Kd.R_slice HO172.out; subst eo56; obtain ⟨Ao57, co57, eo57⟩ := Kd.R_slice HO175.out; subst eo57) | (go_at_call 24; (with_reducible refine (catenaryref04_Same.calls kj9 _ _ t170 _ _ t173 false _ ?side1 ?side2 ?side3 ?side4 A46.out).mono ?_); (case side1 => repeat (first | exact (Kd.R_reads' HO172.out).2.2 | (with_reducible refine Kd.C_alloc ?_ _) | (with_reducible refine Kd.C_drewN ?_ _) | (with_reducible refine Kd.C_drew ?_))); (case side2 => exact (Kd.R_reads' HO172.out).2.1); (case side3 => repeat (first | exact (Kd.R_reads' HO175.out).2.2 | (with_reducible refine Kd.C_alloc ?_ _) | (with_reducible refine Kd.C_drewN ?_ _) | (with_reducible refine Kd.C_drew ?_))); (case side4 => exact (Kd.R_reads' HO175.out).2.1); rintro e w' ⟨rfl, ⟨nd, rfl⟩⟩))
                    go_ret
                    exact ⟨by first | rfl | (simp [errW_none, errW_some] <;> rfl) | (simp [*, errW_none, errW_some] <;> rfl), by repeat (first | (with_reducible first | exact HB.out | apply below_alloc | apply pw_below_drewN | apply below_drew1) | exact HB.out)⟩
                · rw [if_neg c43] at H
                  have c43b0 : (t168 == t169) = false := by simpa using c43
                  (try (have c43b1 : decide (t168 = t169) = false := by simpa using c43))
                  (try (have c43b2 : (t168 == t169) = false := by simpa using c43))
                  (try (have c43b3 : ¬ (t168 = t169) := by simpa using c43))
                  clear c43
                  obtain rfl := Option.some.inj H
                  go_wp2_with (first | ((with_reducible refine gate_callee (f := 28) rfl ?_); refine goesL_ (some 51) rfl rfl Try.func28 (by kernel_rfl) rfl #[.int .i64 x7_6] rfl (by (try simp only [List.map_toArray, List.map_cons, List.map_nil]); first | done | rfl | (simp only [List.length_drop, List.length_take]; rfl)) ?_; (with_reducible refine (ballot_Quorum.calls x7_6 t166 _ A38.out).mono ?_); rintro e w' ⟨rfl, ⟨nd, rfl⟩⟩; refine ⟨_, rfl, ?_⟩) | ((with_reducible refine gate_callee (f := 29) rfl ?_); refine goesL_ (some 53) rfl rfl Try.func29 (by kernel_rfl) rfl #[.int .i64 x7_6] rfl (by (try simp only [List.map_toArray, List.map_cons, List.map_nil]); first | done | rfl | (simp only [List.length_drop, List.length_take]; rfl)) ?_; (with_reducible refine (catenaryref07_Quorum.calls x7_6 t167 _ A39.out).mono ?_); rintro e w' ⟨rfl, ⟨nd, rfl⟩⟩; refine ⟨_, rfl, ?_⟩) | (go_at_call 18; (with_reducible refine (ballot_Enough.calls a0 x7_6 t168 _ A41.out).mono ?_); rintro e w' ⟨rfl, ⟨nd, rfl⟩⟩) | (go_at_call 30; (with_reducible refine (catenaryref07_Enough.calls kj9 a0 x7_6 t169 _ A42.out).mono ?_); rintro e w' ⟨rfl, ⟨nd, rfl⟩⟩))
                  go_ret
                  exact ⟨by first | rfl | (simp [errW_none, errW_some] <;> rfl) | (simp [*, errW_none, errW_some] <;> rfl), by repeat (first | (with_reducible first | exact HB.out | apply below_alloc | apply pw_below_drewN | apply below_drew1) | exact HB.out)⟩
              · rw [if_neg c40] at H
                have c40b0 : (t166 == t167) = false := beq_eq_false_iff_ne.mpr c40
                have c40b1 : (t166 != t167) = true := bne_iff_ne.mpr c40
                obtain rfl := Option.some.inj H
                go_wp2_with (first | ((with_reducible refine gate_callee (f := 28) rfl ?_); refine goesL_ (some 51) rfl rfl Try.func28 (by kernel_rfl) rfl #[.int .i64 x7_6] rfl (by (try simp only [List.map_toArray, List.map_cons, List.map_nil]); first | done | rfl | (simp only [List.length_drop, List.length_take]; rfl)) ?_; (with_reducible refine (ballot_Quorum.calls x7_6 t166 _ A38.out).mono ?_); rintro e w' ⟨rfl, ⟨nd, rfl⟩⟩; refine ⟨_, rfl, ?_⟩) | ((with_reducible refine gate_callee (f := 29) rfl ?_); refine goesL_ (some 53) rfl rfl Try.func29 (by kernel_rfl) rfl #[.int .i64 x7_6] rfl (by (try simp only [List.map_toArray, List.map_cons, List.map_nil]); first | done | rfl | (simp only [List.length_drop, List.length_take]; rfl)) ?_; (with_reducible refine (catenaryref07_Quorum.calls x7_6 t167 _ A39.out).mono ?_); rintro e w' ⟨rfl, ⟨nd, rfl⟩⟩; refine ⟨_, rfl, ?_⟩))
                go_ret
                exact ⟨by first | rfl | (simp [errW_none, errW_some] <;> rfl) | (simp [*, errW_none, errW_some] <;> rfl), by repeat (first | (with_reducible first | exact HB.out | apply below_alloc | apply pw_below_drewN | apply below_drew1) | exact HB.out)⟩

/-- THE ONE PURE STATEMENT of catenarylaw07_BallotSets: yours. -/
def catenarylaw07_BallotSets.Pure : Prop := ∀ (a0 : Int) (a1 : Int) (l2 : List Int), (Lit.int .u64 a0).wf = true → (Lit.int .u64 a1).wf = true → l2.length ≤ maxLen → l2.length * 8 ≤ 140737488351232 → (∀ x ∈ l2, (Lit.int .i64 x).wf = true) → ∃ k, catenarylaw07_BallotSets.f k a0 a1 l2 = some true
theorem catenarylaw07_BallotSets.walk (P : catenarylaw07_BallotSets.Pure) (a0 : Int) (a1 : Int) (a2 : Option Addr) (len2 cap2 : Nat) (z2 : List Int) (w : World) (w0 : (Lit.int .u64 a0).wf = true) (w1 : (Lit.int .u64 a1).wf = true) (w2 : (a2 = none ∧ len2 = 0 ∧ cap2 = 0 ∧ z2 = []) ∨ ∃ x, a2 = some x ∧ len2 ≤ cap2 ∧ cap2 ≤ maxLen ∧ z2.length = cap2 ∧ (∀ i, i < z2.length → w.cell? (x.add i) = some (.int .i64 (z2.getD i 0))) ∧ ∀ n ∈ z2, (Lit.int .i64 n).wf = true) (y2 : len2 * 8 ≤ 140737488351232) :
    Calls Try.prog 6 #[.int .u64 a0, .int .u64 a1, .slice a2 len2 cap2] w fun e w' => e = .returned (.bool true) ∧ Below w.heap.size w w' := by
  obtain ⟨l2, rfl, hr2, hm2, hw2, hc2⟩ := ReadsInt.ofRowC w2
  obtain ⟨k, h⟩ := P a0 a1 l2 w0 w1 hm2 y2 hw2
  refine (catenarylaw07_BallotSets.calls k a0 a1 _ _ l2 true w (Kd.C_of_reads (d := (0 : Int)) (h1 := fun _ => rfl) hr2) hc2 h).mono ?_
  rintro e w' ⟨rfl, hd⟩
  exact ⟨rfl, hd⟩

end Go.Proofs.Ytjbipghbhhkgcaa.PBallotSets
