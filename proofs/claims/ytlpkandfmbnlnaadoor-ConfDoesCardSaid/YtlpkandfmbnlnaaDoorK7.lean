/- What the proof of the claim leans on, of these texts: Q2, GRule, Q3, GDel; only what is used. -/
import Derived.Deep.RegionWith
import Derived.Handy
import Derived.Laws.StructEq
import Derived.Lib.Hide
import Derived.Lib.RowBridge
import Derived.Lib.SmallJoins
import Derived.LoopTactic
import Derived.RegionCalls
import Derived.RegionTactic
import Derived.Shelf.SlicesE.DeleteFunc
import Derived.WalkKit
import Derived.Test.YtlpkandfmbnlnaaDoorK1
import Derived.Test.YtlpkandfmbnlnaaDoorK2
import Derived.Test.YtlpkandfmbnlnaaDoorK3
import Derived.Test.YtlpkandfmbnlnaaDoorK4
import Derived.Test.YtlpkandfmbnlnaaDoorK5
import Derived.Test.YtlpkandfmbnlnaaDoorK6
namespace Go.Proofs.YtlpkandfmbnlnaaDoor
end Go.Proofs.YtlpkandfmbnlnaaDoor
namespace Go.Proofs.YtlpkandfmbnlnaaDoor.Cmd
end Go.Proofs.YtlpkandfmbnlnaaDoor.Cmd
namespace Go.Proofs.YtlpkandfmbnlnaaDoor.Fix
end Go.Proofs.YtlpkandfmbnlnaaDoor.Fix
namespace Go.Proofs.YtlpkandfmbnlnaaDoor.Laid
end Go.Proofs.YtlpkandfmbnlnaaDoor.Laid
namespace Go.Proofs.YtlpkandfmbnlnaaDoor.Mem
end Go.Proofs.YtlpkandfmbnlnaaDoor.Mem
namespace Go.Proofs.YtlpkandfmbnlnaaDoor.Num
end Go.Proofs.YtlpkandfmbnlnaaDoor.Num
namespace Go.Proofs.YtlpkandfmbnlnaaDoor.Opn
end Go.Proofs.YtlpkandfmbnlnaaDoor.Opn
namespace Go.Proofs.YtlpkandfmbnlnaaDoor.Q
end Go.Proofs.YtlpkandfmbnlnaaDoor.Q
namespace Go.Proofs.YtlpkandfmbnlnaaDoor.R
end Go.Proofs.YtlpkandfmbnlnaaDoor.R
namespace Go.Proofs.YtlpkandfmbnlnaaDoor.Ref
end Go.Proofs.YtlpkandfmbnlnaaDoor.Ref
namespace Go.Proofs.YtlpkandfmbnlnaaDoor.Str
end Go.Proofs.YtlpkandfmbnlnaaDoor.Str
namespace Go.Proofs.YtlpkandfmbnlnaaDoor.Txt
end Go.Proofs.YtlpkandfmbnlnaaDoor.Txt
namespace Go.Proofs.YtlpkandfmbnlnaaDoor.confDoes
end Go.Proofs.YtlpkandfmbnlnaaDoor.confDoes
namespace Go.Proofs.YtlpkandfmbnlnaaDoorW.PrintLast
end Go.Proofs.YtlpkandfmbnlnaaDoorW.PrintLast
namespace Go.Proofs.YtlpkandfmbnlnaaDoorW.PrintMore
end Go.Proofs.YtlpkandfmbnlnaaDoorW.PrintMore
namespace Go.Proofs.YtlpkandfmbnlnaaDoorW.PrintWords
end Go.Proofs.YtlpkandfmbnlnaaDoorW.PrintWords
section
namespace Go.Proofs.YtlpkandfmbnlnaaDoor.Q
end Go.Proofs.YtlpkandfmbnlnaaDoor.Q
namespace Go.Proofs.YtlpkandfmbnlnaaDoor.R
end Go.Proofs.YtlpkandfmbnlnaaDoor.R
namespace Go.Proofs.YtlpkandfmbnlnaaDoor.Q
open Go.RowKit Go.Proofs.YtlpkandfmbnlnaaDoorW.PrintWords Go.Proofs.YtlpkandfmbnlnaaDoorW.PrintLast Go.Proofs.YtlpkandfmbnlnaaDoorW.PrintMore
attribute [local go_sem] max2_int min2_int max_two min_two max_three min_three max_four min_four   -- for this text's walks alone
set_option linter.unusedVariables false
set_option linter.unusedSimpArgs false
open Go.Proofs.YtlpkandfmbnlnaaDoor.Q Go.Proofs.YtlpkandfmbnlnaaDoor.R
def conf_everybody.f (a0_0 : Int) (a0_1 : Int) (l0_2 : List Int) (a0_3 : Bool) (a0_4 : Int) : Option (List Int) := if a0_4 = 0 then ((slices_Clone_int_int.f l0_2).bind fun t127 => (some t127)) else ((slices_Clone_int_int.f l0_2).bind fun t130 => ((some (([a0_4] : List Int) : List Int)).bind fun y133 => (if t130.length + y133.length < 17592186044416 then (some (t130 ++ y133)) else (none))))
def conf_everybody.T3 : Bool × List (List Nat × List Nat) := (true, [([], []), ([0], [0]), ([1], [1]), ([], []), ([3], [3]), ([4], [4]), ([2, 5, 2], [2, 5]), ([6, 6, 0, 1, 2, 3, 4, 5, 6], [6])])
def conf_everybody.B3 : List Nat := [0, 1, 3, 0, 8, 24, 63, 127]
theorem conf_everybody.tab3 : rtab .any (opsOf Tryd.f67 3) = conf_everybody.T3 := by kernel_rfl
theorem conf_everybody.bits3 : waitsOk conf_everybody.T3.2 conf_everybody.B3 = true := by kernel_rfl
set_option maxHeartbeats 8000000 in
set_option maxRecDepth 100000 in
theorem conf_everybody.calls (a0_0 : Int) (a0_1 : Int) (A0_2 : Option Addr) (c0_2 : Nat) (l0_2 : List Int) (a0_3 : Bool) (a0_4 : Int) (r : List Int) (w : World) (hr0_2 : Kd.C (Kd.int .i64) w A0_2 l0_2.length l0_2) (hc0_2 : l0_2.length ≤ c0_2) (h : conf_everybody.f a0_0 a0_1 l0_2 a0_3 a0_4 = some r) :
  Calls Tryd.prog 67 #[.agg #[.int .i64 a0_0, .int .u64 a0_1, .slice A0_2 l0_2.length c0_2, .bool a0_3, .int .i64 a0_4]] w fun e w' => ∃ v0_ : Value, e = .returned (v0_) ∧ Kd.R (Kd.int .i64) 3 w' w.heap.size (fun _ => True) v0_ r ∧ Below w.heap.size w w' := by
 have hu54 := Tryd.underlying54
 have HR0_2 := am_ hr0_2
 have HC0_2 := am_ hc0_2
 clear hr0_2 hc0_2
 have HB := am_ (Below.refl w.heap.size w)
 have H : (if a0_4 = 0 then ((slices_Clone_int_int.f l0_2).bind fun t127 => (some t127)) else ((slices_Clone_int_int.f l0_2).bind fun t130 => ((some (([a0_4] : List Int) : List Int)).bind fun y133 => (if t130.length + y133.length < 17592186044416 then (some (t130 ++ y133)) else (none))))) = some r := h
 clear h
 by_cases c2 : a0_4 = 0
 ·rw [if_pos c2] at H
  have c2b0 : (a0_4 == 0) = true := beq_iff_eq.mpr c2
  have c2b1 : (a0_4 != 0) = false := bne_eq_false_iff_eq.mpr c2
  clear c2
  replace H := Option.bind_eq_some_iff.mp H
  obtain ⟨t127, A30, H⟩ := H
  replace H : (some t127) = some r := H
  have A3 := am_ A30
  clear A30
  obtain rfl := Option.some.inj H
  go_enter Tryd.func67, Tryd.ntmps67
  go_wp2_with (first | ((with_reducible refine gate_dst (N := 1) rfl ?_); refine box_event ?hg (N := 1) ?hd (cs := #[.int .i64 a0_0, .int .u64 a0_1, .slice A0_2 l0_2.length c0_2, .bool a0_3, .int .i64 a0_4]) (t := 54) ?hr ?_; (case hd => rfl); (case hg => rfl); (case hr => first | (go_simp; done) | (go_simp; rfl)); intro gb126 hg w4 hbox hb; have n0_ := am_ (bt_ (by repeat (first | (with_reducible first | exact HB.out | apply ba_ | apply bn_ | apply bd_) | exact HB.out)) hb); have n1_ := am_ (hbox); have n2_ := am_ ((by rw [hg]; exact (bs_ (by repeat (first | (with_reducible first | exact HB.out | apply ba_ | apply bn_ | apply bd_) | exact HB.out))) : w.heap.size ≤ gb126)); have n3_ := am_ ((by rw [hg]; exact (bs_ (by repeat (first | (with_reducible first | exact HB.out | apply ba_ | apply bn_ | apply bd_) | exact HB.out))) : w.heap.size ≤ gb126)); clear HB; have HB := n0_; have BK126 := n1_; have GW126 := n2_; have GE126 := n3_; clear n0_ n1_ n2_ n3_; clear hb hbox hg; have hcz5_0 : w4.cell? ⟨gb126, 0, none⟩ = some (.int .i64 a0_0) := (bc_ BK126.out 0).trans rfl; have hcz5_1 : w4.cell? ⟨gb126, 1, none⟩ = some (.int .u64 a0_1) := (bc_ BK126.out 1).trans rfl; have hcz5_2 : w4.cell? ⟨gb126, 2, none⟩ = some (.slice A0_2 l0_2.length c0_2) := (bc_ BK126.out 2).trans rfl; have hcz5_3 : w4.cell? ⟨gb126, 3, none⟩ = some (.bool a0_3) := (bc_ BK126.out 3).trans rfl; have hcz5_4 : w4.cell? ⟨gb126, 4, none⟩ = some (.int .i64 a0_4) := (bc_ BK126.out 4).trans rfl; have hfz5_0 := bf_ BK126.out 0; have hfz5_1 := bf_ BK126.out 1; have hfz5_2 := bf_ BK126.out 2; have hfz5_3 := bf_ BK126.out 3; have hfz5_4 := bf_ BK126.out 4) | ((with_reducible refine gate_callee (f := 93) rfl ?_); refine goesL_ (some 8) rfl rfl Tryd.func93 (by kernel_rfl) rfl #[.slice A0_2 l0_2.length c0_2] rfl (by (try simp only [List.map_toArray, List.map_cons, List.map_nil]); first | done | rfl | (simp only [List.length_drop, lt_]; rfl)) ?_; (with_reducible refine (slices_Clone_int_int.calls _ _ l0_2 t127 _ ?side1 ?side2 A3.out).mono ?_); (case side1 => repeat (first | exact (Kd.C_below HR0_2.out HB.out) | (with_reducible refine Kd.C_alloc ?_ _) | (with_reducible refine Kd.C_drewN ?_ _) | (with_reducible refine Kd.C_drew ?_))); (case side2 => exact HC0_2.out); rintro e w6 ⟨v128, rfl, ho0, hb⟩; refine ⟨_, rfl, ?_⟩; have n0_ := am_ (Kd.R_lower ho0 (bs_ (by repeat (first | (with_reducible first | exact HB.out | apply ba_ | apply bn_ | apply bd_ | refine be_ ?_ GE126.out) | exact HB.out)))); have n1_ := am_ (blk_below (g := gb126) (o := .cells #[.int .i64 a0_0, .int .u64 a0_1, .slice A0_2 l0_2.length c0_2, .bool a0_3, .int .i64 a0_4] 54 (0, 0)) (by (with_reducible repeat (first | refine bw_ ?_ _ | refine bx_ ?_ | refine bl_ ?_ _)); exact BK126.out) hb); have n2_ := am_ (bt_ (by repeat (first | (with_reducible first | exact HB.out | apply ba_ | apply bn_ | apply bd_ | refine be_ ?_ GE126.out) | exact HB.out)) hb); clear BK126; clear HB; have HO129 := n0_; have BK126 := n1_; have HB := n2_; clear n0_ n1_ n2_; (try clear hb); (try clear hb2); (try clear hk); (try clear hi); (try clear ho0)))
  go_ret
  exact ⟨_, by first | rfl | (simp [errW_none, errW_some] <;> rfl) | (simp [*, errW_none, errW_some] <;> rfl), by (with_reducible repeat (first | apply Kd.R_alloc | apply Kd.R_drewN | apply Kd.R_drew)); exact HO129.out, by repeat (first | (with_reducible first | exact HB.out | apply ba_ | apply bn_ | apply bd_ | refine be_ ?_ GE126.out) | exact HB.out)⟩
 ·rw [if_neg c2] at H
  have c2b0 : (a0_4 == 0) = false := beq_eq_false_iff_ne.mpr c2
  have c2b1 : (a0_4 != 0) = true := bne_iff_ne.mpr c2
  replace H := Option.bind_eq_some_iff.mp H
  obtain ⟨t130, A70, H⟩ := H
  replace H : ((some (([a0_4] : List Int) : List Int)).bind fun y133 => (if t130.length + y133.length < 17592186044416 then (some (t130 ++ y133)) else (none))) = some r := H
  have A7 := am_ A70
  clear A70
  obtain ⟨y133, hy133⟩ : ∃ y_ : List Int, y_ = (([a0_4] : List Int)) := ⟨_, rfl⟩
  replace H : (if t130.length + y133.length < 17592186044416 then (some (t130 ++ y133)) else (none)) = some r := by first | (rw [hy133]; with_reducible exact H) | (have H2_ := (ob_ _ _).symm.trans H; rw [hy133]; with_reducible exact H2_) | (have H2_ := (ob_ _ _).symm.trans H; with_reducible exact H2_) | with_reducible exact H | (rw [hy133]; exact H) | exact H
  have Ny133 := am_ hy133
  clear hy133
  by_cases c8 : t130.length + y133.length < 17592186044416
  ·rw [if_pos c8] at H
   have LMc8 := am_ c8
   clear c8
   obtain ⟨y136, hy136⟩ : ∃ y_ : List Int, y_ = (t130 ++ y133) := ⟨_, rfl⟩
   replace H : (some y136) = some r := by first | (rw [hy136]; with_reducible exact H) | (have H2_ := (ob_ _ _).symm.trans H; rw [hy136]; with_reducible exact H2_) | (have H2_ := (ob_ _ _).symm.trans H; with_reducible exact H2_) | with_reducible exact H | (rw [hy136]; exact H) | exact H
   have Ny136 := am_ hy136
   clear hy136
   obtain rfl := Option.some.inj H
   go_enter Tryd.func67, Tryd.ntmps67
   try go_wp2_with (first | ((with_reducible refine gate_dst (N := 1) rfl ?_); refine box_event ?hg (N := 1) ?hd (cs := #[.int .i64 a0_0, .int .u64 a0_1, .slice A0_2 l0_2.length c0_2, .bool a0_3, .int .i64 a0_4]) (t := 54) ?hr ?_; (case hd => rfl); (case hg => rfl); (case hr => first | (go_simp; done) | (go_simp; rfl)); intro gb126 hg w9 hbox hb; have n0_ := am_ (bt_ (by repeat (first | (with_reducible first | exact HB.out | apply ba_ | apply bn_ | apply bd_) | exact HB.out)) hb); have n1_ := am_ (hbox); have n2_ := am_ ((by rw [hg]; exact (bs_ (by repeat (first | (with_reducible first | exact HB.out | apply ba_ | apply bn_ | apply bd_) | exact HB.out))) : w.heap.size ≤ gb126)); have n3_ := am_ ((by rw [hg]; exact (bs_ (by repeat (first | (with_reducible first | exact HB.out | apply ba_ | apply bn_ | apply bd_) | exact HB.out))) : w.heap.size ≤ gb126)); clear HB; have HB := n0_; have BK126 := n1_; have GW126 := n2_; have GE126 := n3_; clear n0_ n1_ n2_ n3_; clear hb hbox hg; have hcz10_0 : w9.cell? ⟨gb126, 0, none⟩ = some (.int .i64 a0_0) := (bc_ BK126.out 0).trans rfl; have hcz10_1 : w9.cell? ⟨gb126, 1, none⟩ = some (.int .u64 a0_1) := (bc_ BK126.out 1).trans rfl; have hcz10_2 : w9.cell? ⟨gb126, 2, none⟩ = some (.slice A0_2 l0_2.length c0_2) := (bc_ BK126.out 2).trans rfl; have hcz10_3 : w9.cell? ⟨gb126, 3, none⟩ = some (.bool a0_3) := (bc_ BK126.out 3).trans rfl; have hcz10_4 : w9.cell? ⟨gb126, 4, none⟩ = some (.int .i64 a0_4) := (bc_ BK126.out 4).trans rfl; have hfz10_0 := bf_ BK126.out 0; have hfz10_1 := bf_ BK126.out 1; have hfz10_2 := bf_ BK126.out 2; have hfz10_3 := bf_ BK126.out 3; have hfz10_4 := bf_ BK126.out 4))
   have n0_ := am_ (bx_ BK126.out)
   have n1_ := am_ (bd_ HB.out)
   clear BK126
   clear HB
   have BK126 := n0_
   have HB := n1_
   clear n0_ n1_
   refine start_ (n := 8) (S := fun w' => w'.cell? ⟨gb126, 0, none⟩ = some (.int .i64 a0_0) ∧ w'.cell? ⟨gb126, 1, none⟩ = some (.int .u64 a0_1) ∧ w'.cell? ⟨gb126, 2, none⟩ = some (.slice A0_2 l0_2.length c0_2) ∧ w'.cell? ⟨gb126, 3, none⟩ = some (.bool a0_3) ∧ w'.cell? ⟨gb126, 4, none⟩ = some (.int .i64 a0_4)) (ds := []) #[false, false, false, false, false, false, false, false] (by kernel_rfl) rfl rfl ⟨(bc_ BK126.out 0).trans rfl, (bc_ BK126.out 1).trans rfl, (bc_ BK126.out 2).trans rfl, (bc_ BK126.out 3).trans rfl, (bc_ BK126.out 4).trans rfl⟩ (fun hHeld => ?_); refine with_tabW conf_everybody.tab3 conf_everybody.bits3 (fun HT_ HW_ => ?_)
   generalize w9.drew = w11 at BK126 HB hHeld ⊢
   refine pure_ (i := 0) (N := some 9) (v := ?_) (a' := ?_) #[true, false, false, false, false, false, false, false] rfl rfl (any_of HT_.out (by kernel_rfl)) (fun _ _ _ h => h) (Or.inl ⟨by rfl, ?_⟩) ?_ ?_
   rotate_left
   ·intro w'
    go_simp
    with_reducible rfl
   rotate_left
   ·simp only [Act.put, sa_, sz_, ss_, i64_w, i32_w]
    rfl
   refine pure_ (i := 3) (N := some 12) (v := ?_) (a' := ?_) #[true, false, false, true, false, false, false, false] rfl rfl (any_of HT_.out (by kernel_rfl)) (fun _ _ _ h => h) (Or.inl ⟨by rfl, ?_⟩) ?_ ?_
   rotate_left
   ·intro w'
    go_simp
    with_reducible rfl
   rotate_left
   ·simp only [Act.put, sa_, sz_, ss_, i64_w, i32_w]
    rfl
   refine take_ (i := 1) (N := some 10) (v := ?_) (a' := ?_) #[true, true, false, true, false, false, false, false] rfl rfl (take_ofW HT_.out HW_.out (by kernel_rfl)) (fun _ _ _ h => h) (Or.inl ⟨by rfl, ?_⟩) hHeld ?_ ?_
   rotate_left
   ·rintro w' ⟨s0, s1, s2, s3, s4⟩
    go_simp
    with_reducible rfl
   rotate_left
   ·simp only [Act.put, sa_, sz_, ss_, i64_w, i32_w]
    rfl
   refine take_ (i := 4) (N := some 13) (v := ?_) (a' := ?_) #[true, true, false, true, true, false, false, false] rfl rfl (take_ofW HT_.out HW_.out (by kernel_rfl)) (fun _ _ _ h => h) (Or.inl ⟨by rfl, ?_⟩) hHeld ?_ ?_
   rotate_left
   ·rintro w' ⟨s0, s1, s2, s3, s4⟩
    go_simp
    with_reducible rfl
   rotate_left
   ·simp only [Act.put, sa_, sz_, ss_, i64_w, i32_w]
    rfl
   refine join_ (σ := Value × Value) 2 #[true, true, true, true, true, true, false, false] (fun s_ => [(11, s_.1), (14, s_.2)]) (fun s_ w' => (w'.cell? ⟨gb126, 0, none⟩ = some (.int .i64 a0_0) ∧ w'.cell? ⟨gb126, 1, none⟩ = some (.int .u64 a0_1) ∧ w'.cell? ⟨gb126, 2, none⟩ = some (.slice A0_2 l0_2.length c0_2) ∧ w'.cell? ⟨gb126, 3, none⟩ = some (.bool a0_3) ∧ w'.cell? ⟨gb126, 4, none⟩ = some (.int .i64 a0_4)) ∧ (Kd.R (Kd.int .i64) 3 w' w.heap.size (fun k_ => some k_ ≠ (s_.2 : Value).ownBlock) s_.1 t130) ∧ (Kd.R (Kd.int .i64) 3 w' w.heap.size (fun k_ => some k_ ≠ (s_.1 : Value).ownBlock) s_.2 y133) ∧ (w'.heap[gb126]? = some (.cells #[.int .i64 a0_0, .int .u64 a0_1, .slice A0_2 l0_2.length c0_2, .bool a0_3, .int .i64 a0_4] 54 (0, 0))) ∧ (Below w.heap.size w w')) ?_ ?_
   rotate_left
   ·intro hCont
    refine two_ (i := 2) (j := 5) (Ni := some 11) (Nj := some 14) #[true, true, true, true, true, false, false, false] #[true, true, false, true, true, true, false, false] rfl rfl rfl rfl (two_of HT_.out (by kernel_rfl)) (by decide) (by decide) (fun K hK => ?_) (fun K hK => ?_)
    ·skip
     refine goes_ Tryd.func93 (by kernel_rfl) rfl #[.slice A0_2 l0_2.length c0_2] (by rfl) rfl rfl (by (try simp only [List.map_toArray, List.map_cons, List.map_nil]); first | done | rfl | (simp only [List.length_drop, lt_]; rfl)) ?_
     with_reducible refine (slices_Clone_int_int.calls _ _ l0_2 t130 _ ?side1 ?side2 A7.out).mono ?_
     (case side1 => repeat (first | exact (Kd.C_below HR0_2.out HB.out) | (with_reducible refine Kd.C_alloc ?_ _) | (with_reducible refine Kd.C_drewN ?_ _) | (with_reducible refine Kd.C_drew ?_)))
     (case side2 => exact HC0_2.out)
     rintro e w12 ⟨v131, rfl, ho0, hb⟩
     refine ⟨_, rfl, ?_⟩
     have n0_ := am_ (Kd.R_lower ho0 (bs_ (by repeat (first | (with_reducible first | exact HB.out | apply ba_ | apply bn_ | apply bd_ | refine be_ ?_ GE126.out) | exact HB.out))))
     have n1_ := am_ (blk_below (g := gb126) (o := .cells #[.int .i64 a0_0, .int .u64 a0_1, .slice A0_2 l0_2.length c0_2, .bool a0_3, .int .i64 a0_4] 54 (0, 0)) (by (with_reducible repeat (first | refine bw_ ?_ _ | refine bx_ ?_ | refine bl_ ?_ _)); exact BK126.out) hb)
     have n2_ := am_ (bt_ (by repeat (first | (with_reducible first | exact HB.out | apply ba_ | apply bn_ | apply bd_ | refine be_ ?_ GE126.out) | exact HB.out)) hb)
     clear BK126
     clear HB
     have HO132 := n0_
     have BK126 := n1_
     have HB := n2_
     clear n0_ n1_ n2_
     (try clear hb)
     (try clear hb2)
     (try clear hk)
     (try clear hi)
     (try clear ho0)
     refine hK.out _ _ ⟨(bc_ BK126.out 0).trans rfl, (bc_ BK126.out 1).trans rfl, (bc_ BK126.out 2).trans rfl, (bc_ BK126.out 3).trans rfl, (bc_ BK126.out 4).trans rfl⟩ (fun hHeld => ?_)
     clear hK K
     refine norm_ (a' := ?_) ?_ ?_
     rotate_left
     ·show Act.put _ (some 11) _ = _
      simp only [Act.put, sa_, sz_, ss_, i64_w, i32_w]
      rfl
     refine one_ (i := 5) (N := some 14) #[true, true, true, true, true, true, false, false] rfl rfl (one_of HT_.out (by kernel_rfl)) (by decide) (fun K hK => ?_)
     refine Kd.R_lit_step (Kd.int .i64) _ 3 ?hg (N := 14) ?hd (xs := ([a0_4] : List Int)) (inner := [.int .i64 a0_4]) (ok := fun _ => True) (okp := fun _ => True) ?hr ?hp (fun _ hk => hk) trivial (Below.refl _ _) (Nat.le_refl _) (by simp) ?_; (case hd => rfl); (case hg => rfl); (case hr => first | (go_simp; done) | (go_simp; rfl)); (case hp => exact (Reps.one (show Kd.M (Kd.int .i64) _ _ _ a0_4 [.int .i64 a0_4] from rfl) (Reps.none _ _)))
     intro v134 w13 ho14 hb hg_ hnew_
     clear hg_ hnew_
     (first | rw [← Ny133.out] at ho14 | (simp only [Int.reduceToNat] at ho14; rw [← Ny133.out] at ho14))
     have n0_ := am_ (Kd.R_elder' (by (with_reducible repeat (first | apply Kd.R_alloc | apply Kd.R_drewN | apply Kd.R_drew)); exact HO132.out) (Kd.R_base ho14) hb)
     have n1_ := am_ (Kd.R_lower (Kd.R_new' ho14 (Kd.R_lt (by (with_reducible repeat (first | apply Kd.R_alloc | apply Kd.R_drewN | apply Kd.R_drew)); exact HO132.out))) (bs_ (by repeat (first | (with_reducible first | exact HB.out | apply ba_ | apply bn_ | apply bd_ | refine be_ ?_ GE126.out) | exact HB.out))))
     have n2_ := am_ (blk_below (g := gb126) (o := .cells #[.int .i64 a0_0, .int .u64 a0_1, .slice A0_2 l0_2.length c0_2, .bool a0_3, .int .i64 a0_4] 54 (0, 0)) (by (with_reducible repeat (first | refine bw_ ?_ _ | refine bx_ ?_ | refine bl_ ?_ _)); exact BK126.out) hb)
     have n3_ := am_ (bt_ (by repeat (first | (with_reducible first | exact HB.out | apply ba_ | apply bn_ | apply bd_ | refine be_ ?_ GE126.out) | exact HB.out)) hb)
     clear HO132
     clear BK126
     clear HB
     have HO132 := n0_
     have HO135 := n1_
     have BK126 := n2_
     have HB := n3_
     clear n0_ n1_ n2_ n3_
     clear hb ho14
     refine hK.out _ _ ⟨(bc_ BK126.out 0).trans rfl, (bc_ BK126.out 1).trans rfl, (bc_ BK126.out 2).trans rfl, (bc_ BK126.out 3).trans rfl, (bc_ BK126.out 4).trans rfl⟩ (fun hHeld => ?_)
     clear hK K
     refine norm_ (a' := ?_) ?_ ?_
     rotate_left
     ·show Act.put _ (some 14) _ = _
      simp only [Act.put, sa_, sz_, ss_, i64_w, i32_w]
      rfl
     exact norm_ (by simp only [putAll, Act.put, sa_, sz_, ss_]) (hCont (v131, v134) _ ⟨hHeld, (by (with_reducible repeat (first | apply Kd.R_alloc | apply Kd.R_drewN | apply Kd.R_drew)); exact Kd.R_mono HO132.out (fun _ hk => hk.2)), (by (with_reducible repeat (first | apply Kd.R_alloc | apply Kd.R_drewN | apply Kd.R_drew)); exact Kd.R_mono HO135.out (fun _ hk => hk.2)), (by (with_reducible repeat (first | refine bw_ ?_ _ | refine bx_ ?_ | refine bl_ ?_ _)); exact BK126.out), (by repeat (first | (with_reducible first | exact HB.out | apply ba_ | apply bn_ | apply bd_ | refine be_ ?_ GE126.out) | exact HB.out))⟩)
    ·skip
     refine Kd.R_lit_step (Kd.int .i64) _ 3 ?hg (N := 14) ?hd (xs := ([a0_4] : List Int)) (inner := [.int .i64 a0_4]) (ok := fun _ => True) (okp := fun _ => True) ?hr ?hp (fun _ hk => hk) trivial (Below.refl _ _) (Nat.le_refl _) (by simp) ?_; (case hd => rfl); (case hg => rfl); (case hr => first | (go_simp; done) | (go_simp; rfl)); (case hp => exact (Reps.one (show Kd.M (Kd.int .i64) _ _ _ a0_4 [.int .i64 a0_4] from rfl) (Reps.none _ _)))
     intro v134 w12 ho13 hb hg_ hnew_
     clear hg_ hnew_
     (first | rw [← Ny133.out] at ho13 | (simp only [Int.reduceToNat] at ho13; rw [← Ny133.out] at ho13))
     have n0_ := am_ (Kd.R_lower ho13 (bs_ (by repeat (first | (with_reducible first | exact HB.out | apply ba_ | apply bn_ | apply bd_ | refine be_ ?_ GE126.out) | exact HB.out))))
     have n1_ := am_ (blk_below (g := gb126) (o := .cells #[.int .i64 a0_0, .int .u64 a0_1, .slice A0_2 l0_2.length c0_2, .bool a0_3, .int .i64 a0_4] 54 (0, 0)) (by (with_reducible repeat (first | refine bw_ ?_ _ | refine bx_ ?_ | refine bl_ ?_ _)); exact BK126.out) hb)
     have n2_ := am_ (bt_ (by repeat (first | (with_reducible first | exact HB.out | apply ba_ | apply bn_ | apply bd_ | refine be_ ?_ GE126.out) | exact HB.out)) hb)
     clear BK126
     clear HB
     have HO135 := n0_
     have BK126 := n1_
     have HB := n2_
     clear n0_ n1_ n2_
     clear hb ho13
     refine hK.out _ _ ⟨(bc_ BK126.out 0).trans rfl, (bc_ BK126.out 1).trans rfl, (bc_ BK126.out 2).trans rfl, (bc_ BK126.out 3).trans rfl, (bc_ BK126.out 4).trans rfl⟩ (fun hHeld => ?_)
     clear hK K
     refine norm_ (a' := ?_) ?_ ?_
     rotate_left
     ·show Act.put _ (some 14) _ = _
      simp only [Act.put, sa_, sz_, ss_, i64_w, i32_w]
      rfl
     refine one_ (i := 2) (N := some 11) #[true, true, true, true, true, true, false, false] rfl rfl (one_of HT_.out (by kernel_rfl)) (by decide) (fun K hK => ?_)
     refine goes_ Tryd.func93 (by kernel_rfl) rfl #[.slice A0_2 l0_2.length c0_2] (by rfl) rfl rfl (by (try simp only [List.map_toArray, List.map_cons, List.map_nil]); first | done | rfl | (simp only [List.length_drop, lt_]; rfl)) ?_
     with_reducible refine (slices_Clone_int_int.calls _ _ l0_2 t130 _ ?side1 ?side2 A7.out).mono ?_
     (case side1 => repeat (first | exact (Kd.C_below HR0_2.out HB.out) | (with_reducible refine Kd.C_alloc ?_ _) | (with_reducible refine Kd.C_drewN ?_ _) | (with_reducible refine Kd.C_drew ?_)))
     (case side2 => exact HC0_2.out)
     rintro e w14 ⟨v131, rfl, ho0, hb⟩
     refine ⟨_, rfl, ?_⟩
     have n0_ := am_ (Kd.R_elder' (by (with_reducible repeat (first | apply Kd.R_alloc | apply Kd.R_drewN | apply Kd.R_drew)); exact HO135.out) (Kd.R_base ho0) hb)
     have n1_ := am_ (Kd.R_lower (Kd.R_new' ho0 (Kd.R_lt (by (with_reducible repeat (first | apply Kd.R_alloc | apply Kd.R_drewN | apply Kd.R_drew)); exact HO135.out))) (bs_ (by repeat (first | (with_reducible first | exact HB.out | apply ba_ | apply bn_ | apply bd_ | refine be_ ?_ GE126.out) | exact HB.out))))
     have n2_ := am_ (blk_below (g := gb126) (o := .cells #[.int .i64 a0_0, .int .u64 a0_1, .slice A0_2 l0_2.length c0_2, .bool a0_3, .int .i64 a0_4] 54 (0, 0)) (by (with_reducible repeat (first | refine bw_ ?_ _ | refine bx_ ?_ | refine bl_ ?_ _)); exact BK126.out) hb)
     have n3_ := am_ (bt_ (by repeat (first | (with_reducible first | exact HB.out | apply ba_ | apply bn_ | apply bd_ | refine be_ ?_ GE126.out) | exact HB.out)) hb)
     clear HO135
     clear BK126
     clear HB
     have HO135 := n0_
     have HO132 := n1_
     have BK126 := n2_
     have HB := n3_
     clear n0_ n1_ n2_ n3_
     (try clear hb)
     (try clear hb2)
     (try clear hk)
     (try clear hi)
     (try clear ho0)
     refine hK.out _ _ ⟨(bc_ BK126.out 0).trans rfl, (bc_ BK126.out 1).trans rfl, (bc_ BK126.out 2).trans rfl, (bc_ BK126.out 3).trans rfl, (bc_ BK126.out 4).trans rfl⟩ (fun hHeld => ?_)
     clear hK K
     refine norm_ (a' := ?_) ?_ ?_
     rotate_left
     ·show Act.put _ (some 11) _ = _
      simp only [Act.put, sa_, sz_, ss_, i64_w, i32_w]
      rfl
     exact norm_ (by simp only [putAll, Act.put, sa_, sz_, ss_]) (hCont (v131, v134) _ ⟨hHeld, (by (with_reducible repeat (first | apply Kd.R_alloc | apply Kd.R_drewN | apply Kd.R_drew)); exact Kd.R_mono HO132.out (fun _ hk => hk.2)), (by (with_reducible repeat (first | apply Kd.R_alloc | apply Kd.R_drewN | apply Kd.R_drew)); exact Kd.R_mono HO135.out (fun _ hk => hk.2)), (by (with_reducible repeat (first | refine bw_ ?_ _ | refine bx_ ?_ | refine bl_ ?_ _)); exact BK126.out), (by repeat (first | (with_reducible first | exact HB.out | apply ba_ | apply bn_ | apply bd_ | refine be_ ?_ GE126.out) | exact HB.out))⟩)
   rintro ⟨v131, v134⟩ w15 ⟨hS_, h0_, h1_, h2_, h3_⟩
   have n0_ : Aside0 (Kd.R (Kd.int .i64) 3 w15 w.heap.size (fun k_ => some k_ ≠ (v134 : Value).ownBlock) v131 t130) := ⟨h0_⟩
   have n1_ : Aside0 (Kd.R (Kd.int .i64) 3 w15 w.heap.size (fun k_ => some k_ ≠ (v131 : Value).ownBlock) v134 y133) := ⟨h1_⟩
   have n2_ : Aside0 (w15.heap[gb126]? = some (.cells #[.int .i64 a0_0, .int .u64 a0_1, .slice A0_2 l0_2.length c0_2, .bool a0_3, .int .i64 a0_4] 54 (0, 0))) := ⟨h2_⟩
   have n3_ : Aside0 (Below w.heap.size w w15) := ⟨h3_⟩
   clear BK126
   clear HB
   clear h0_ h1_ h2_ h3_
   have HO132 := n0_
   have HO135 := n1_
   have BK126 := n2_
   have HB := n3_
   clear n0_ n1_ n2_ n3_
   have hHeld : w15.cell? ⟨gb126, 0, none⟩ = some (.int .i64 a0_0) ∧ w15.cell? ⟨gb126, 1, none⟩ = some (.int .u64 a0_1) ∧ w15.cell? ⟨gb126, 2, none⟩ = some (.slice A0_2 l0_2.length c0_2) ∧ w15.cell? ⟨gb126, 3, none⟩ = some (.bool a0_3) ∧ w15.cell? ⟨gb126, 4, none⟩ = some (.int .i64 a0_4) := hS_
   obtain ⟨Ao17, co17, eo17⟩ := Kd.R_slice HO135.out
   (first | subst eo17 | (injection eo17 with f1_ f2_ f3_; have f4_ := f1_.symm; have f5_ := f3_.symm; clear f1_ f2_ f3_; subst f4_; subst f5_))
   refine norm_ (a' := ?_) ?_ ?_
   rotate_left
   ·simp only [putAll, Act.put, sa_, sz_, ss_]
    rfl
   refine one_ (i := 6) (N := some 15) #[true, true, true, true, true, true, true, false] rfl rfl (one_of HT_.out (by kernel_rfl)) (by decide) (fun K hK => ?_)
   refine Kd.R_append_rows_step (Kd.int .i64) (w0 := w) w.heap.size (by rfl) (.tmp 11) (.tmp 14) 52 3 (.int .i64 0) 8 rfl Tryd.underlying52 info3 rfl (by decide) (by omega) v131 t130 y133 _ _ _ (fun k_ => some k_ ≠ (.slice Ao17 y133.length co17 : Value).ownBlock) (fun _ => False) rfl rfl ?aO ?aR (fun _ _ h => h) (fun _ h => h.elim) ?aF ?aB ?aS ?aL ?_
   (case aR => repeat (first | exact (Kd.R_reads' HO135.out).2.2 | (with_reducible refine Kd.C_alloc ?_ _) | (with_reducible refine Kd.C_drewN ?_ _) | (with_reducible refine Kd.C_drew ?_)))
   (case aB => exact (by repeat (first | (with_reducible first | exact HB.out | apply ba_ | apply bn_ | apply bd_ | refine be_ ?_ GE126.out) | exact HB.out)))
   (case aF => exact (fun k_ hk => Kd.fresh' (Kd.R_lt (by (with_reducible repeat (first | apply Kd.R_alloc | apply Kd.R_drewN | apply Kd.R_drew)); exact HO135.out)) k_ hk))
   (case aO => exact (by (with_reducible repeat (first | apply Kd.R_alloc | apply Kd.R_drewN | apply Kd.R_drew)); exact HO132.out))
   (case aS => exact (bs_ (by repeat (first | (with_reducible first | exact HB.out | apply ba_ | apply bn_ | apply bd_ | refine be_ ?_ GE126.out) | exact HB.out))))
   (case aL => have := LMc8.out; omega)
   intro v137 w16 ho hb hg hat
   rw [← Ny136.out] at ho
   have n0_ := am_ (blk_grown (g := gb126) (o := .cells #[.int .i64 a0_0, .int .u64 a0_1, .slice A0_2 l0_2.length c0_2, .bool a0_3, .int .i64 a0_4] 54 (0, 0)) (by (with_reducible repeat (first | refine bw_ ?_ _ | refine bx_ ?_ | refine bl_ ?_ _)); exact BK126.out) hg (Kd.R_ne HO132.out BK126.out (by decide)))
   have n1_ := am_ (Kd.R_after (ok := (fun _ => True)) (by (with_reducible repeat (first | apply Kd.R_alloc | apply Kd.R_drewN | apply Kd.R_drew)); exact Kd.R_mono HO135.out (fun _ hk => ⟨trivial, hk⟩)) hg hat)
   have n2_ := am_ (hb)
   have n3_ := am_ (ho)
   clear BK126
   clear HO135
   clear HB
   clear HO132
   have BK126 := n0_
   have HO135 := n1_
   have HB := n2_
   have HO138 := n3_
   clear n0_ n1_ n2_ n3_
   clear ho hb hg hat
   refine hK.out _ _ ⟨(bc_ BK126.out 0).trans rfl, (bc_ BK126.out 1).trans rfl, (bc_ BK126.out 2).trans rfl, (bc_ BK126.out 3).trans rfl, (bc_ BK126.out 4).trans rfl⟩ (fun hHeld => ?_)
   clear hK K
   refine norm_ (a' := ?_) ?_ ?_
   rotate_left
   ·show Act.put _ (some 15) _ = _
    simp only [Act.put, sa_, sz_, ss_, i64_w, i32_w]
    rfl
   refine pure_ (i := 7) (N := some 2) (v := ?_) (a' := ?_) #[true, true, true, true, true, true, true, true] rfl rfl (any_of HT_.out (by kernel_rfl)) (fun _ _ _ h => h) (Or.inl ⟨by rfl, ?_⟩) ?_ ?_
   rotate_left
   ·intro w'
    go_simp
    with_reducible rfl
   rotate_left
   ·simp only [Act.put, sa_, sz_, ss_, i64_w, i32_w]
    rfl
   refine done_ (done_of HT_.out (by kernel_rfl)) ?_
   try go_wp2
   go_ret
   exact ⟨_, by first | rfl | (simp [errW_none, errW_some] <;> rfl) | (simp [*, errW_none, errW_some] <;> rfl), by (with_reducible repeat (first | apply Kd.R_alloc | apply Kd.R_drewN | apply Kd.R_drew)); exact Kd.R_mono HO138.out (fun _ hk => trivial), by repeat (first | (with_reducible first | exact HB.out | apply ba_ | apply bn_ | apply bd_ | refine be_ ?_ GE126.out) | exact HB.out)⟩
  ·rw [if_neg c8] at H
   exact absurd H (by simp)
mutual
def conf_Right.j0 : Nat → Int → Bool → Int → Int → List Int → Bool → Int → Option (Bool)
 | 0, _, _, _, _, _, _, _ => none
 | k + 1, x3, x7, x140000, x140001, x140002, x140003, x140004 => if x7 = true then (some false) else (if x3 < 1 then (conf_Right.j1 k true x140000 x140001 x140002 x140003 x140004) else (if x3 > 5 then (conf_Right.j1 k true x140000 x140001 x140002 x140003 x140004) else (if x140003 = true then (if x3 < 2 then (conf_Right.j1 k true x140000 x140001 x140002 x140003 x140004) else (conf_Right.j1 k (x140004 != 0) x140000 x140001 x140002 x140003 x140004)) else (conf_Right.j1 k false x140000 x140001 x140002 x140003 x140004))))
def conf_Right.j1 : Nat → Bool → Int → Int → List Int → Bool → Int → Option (Bool)
 | 0, _, _, _, _, _, _ => none
 | k + 1, x21, x140000, x140001, x140002, x140003, x140004 => if x21 = true then (some false) else ((conf_everybody.f x140000 x140001 x140002 x140003 x140004).bind fun t140 => ((conf_unlike.f k t140).bind fun t143 => (some t143)))
end
def conf_Right.f (k : Nat) (a0_0 : Int) (a0_1 : Int) (l0_2 : List Int) (a0_3 : Bool) (a0_4 : Int) : Option (Bool) := if a0_0 < 0 then (conf_Right.j0 k (l0_2.length : Int) true a0_0 a0_1 l0_2 a0_3 a0_4) else (if a0_0 ≥ 4 then (conf_Right.j0 k (l0_2.length : Int) true a0_0 a0_1 l0_2 a0_3 a0_4) else (conf_Right.j0 k (l0_2.length : Int) (decide (a0_1 < 1)) a0_0 a0_1 l0_2 a0_3 a0_4))
set_option maxHeartbeats 8000000 in
set_option maxRecDepth 100000 in
theorem conf_Right.calls (k : Nat) (a0_0 : Int) (a0_1 : Int) (A0_2 : Option Addr) (c0_2 : Nat) (l0_2 : List Int) (a0_3 : Bool) (a0_4 : Int) (r : Bool) (w : World) (hr0_2 : Kd.C (Kd.int .i64) w A0_2 l0_2.length l0_2) (hc0_2 : l0_2.length ≤ c0_2) (h : conf_Right.f k a0_0 a0_1 l0_2 a0_3 a0_4 = some r) :
  Calls Tryd.prog 31 #[.agg #[.int .i64 a0_0, .int .u64 a0_1, .slice A0_2 l0_2.length c0_2, .bool a0_3, .int .i64 a0_4]] w fun e w' => e = .returned (.bool r) ∧ Below w.heap.size w w' := by
 have hu54 := Tryd.underlying54
 have HR0_2 := am_ hr0_2
 have HC0_2 := am_ hc0_2
 clear hr0_2 hc0_2
 have HB := am_ (Below.refl w.heap.size w)
 have H : (if a0_0 < 0 then (conf_Right.j0 k (l0_2.length : Int) true a0_0 a0_1 l0_2 a0_3 a0_4) else (if a0_0 ≥ 4 then (conf_Right.j0 k (l0_2.length : Int) true a0_0 a0_1 l0_2 a0_3 a0_4) else (conf_Right.j0 k (l0_2.length : Int) (decide (a0_1 < 1)) a0_0 a0_1 l0_2 a0_3 a0_4))) = some r := h
 clear h
 have HC2 := am_ H
 clear H
 go_enter Tryd.func31, Tryd.ntmps31
 go_upto_region 2 with (first | ((with_reducible refine gate_dst (N := 1) rfl ?_); refine box_event ?hg (N := 1) ?hd (cs := #[.int .i64 a0_0, .int .u64 a0_1, .slice A0_2 l0_2.length c0_2, .bool a0_3, .int .i64 a0_4]) (t := 54) ?hr ?_; (case hd => rfl); (case hg => rfl); (case hr => first | (go_simp; done) | (go_simp; rfl)); intro gb139 hg w3 hbox hb; have n0_ := am_ (bt_ (by repeat (first | (with_reducible first | exact HB.out | apply ba_ | apply bn_ | apply bd_) | exact HB.out)) hb); have n1_ := am_ (hbox); have n2_ := am_ ((by rw [hg]; exact (bs_ (by repeat (first | (with_reducible first | exact HB.out | apply ba_ | apply bn_ | apply bd_) | exact HB.out))) : w.heap.size ≤ gb139)); have n3_ := am_ ((by rw [hg]; exact (bs_ (by repeat (first | (with_reducible first | exact HB.out | apply ba_ | apply bn_ | apply bd_) | exact HB.out))) : w.heap.size ≤ gb139)); clear HB; have HB := n0_; have BK139 := n1_; have GW139 := n2_; have GE139 := n3_; clear n0_ n1_ n2_ n3_; clear hb hbox hg; have hcz4_0 : w3.cell? ⟨gb139, 0, none⟩ = some (.int .i64 a0_0) := (bc_ BK139.out 0).trans rfl; have hcz4_1 : w3.cell? ⟨gb139, 1, none⟩ = some (.int .u64 a0_1) := (bc_ BK139.out 1).trans rfl; have hcz4_2 : w3.cell? ⟨gb139, 2, none⟩ = some (.slice A0_2 l0_2.length c0_2) := (bc_ BK139.out 2).trans rfl; have hcz4_3 : w3.cell? ⟨gb139, 3, none⟩ = some (.bool a0_3) := (bc_ BK139.out 3).trans rfl; have hcz4_4 : w3.cell? ⟨gb139, 4, none⟩ = some (.int .i64 a0_4) := (bc_ BK139.out 4).trans rfl; have hfz4_0 := bf_ BK139.out 0; have hfz4_1 := bf_ BK139.out 1; have hfz4_2 := bf_ BK139.out 2; have hfz4_3 := bf_ BK139.out 3; have hfz4_4 := bf_ BK139.out 4))
 (try simp only [Act.put, sa_, sz_, ss_])
 go_cut [7] (fun v7 wc => ∃ (kq : Nat) (x7_1 : Bool), v7 = .bool x7_1 ∧ Aside0 (conf_Right.j0 kq (l0_2.length : Int) x7_1 a0_0 a0_1 l0_2 a0_3 a0_4 = some r) ∧ Aside0 (kq ≤ k) ∧ Aside0 (wc.heap[gb139]? = some (.cells #[.int .i64 a0_0, .int .u64 a0_1, (.slice A0_2 l0_2.length c0_2), .bool a0_3, .int .i64 a0_4] 54 (0, 0))) ∧ Aside0 (Below w.heap.size w wc))
 case first =>
  have H := HC2.out
  clear HC2
  by_cases c5 : a0_0 < 0
  ·rw [if_pos c5] at H
   have c5b0 : decide (a0_0 < 0) = true := decide_eq_true c5
   clear c5
   (first | rw [c5b0] | (simp only [i64_w, i32_w]; rw [c5b0]) | skip)
   have H' := am_ H
   clear H
   have hcz6_0 : w3.cell? ⟨gb139, 0, none⟩ = some (.int .i64 a0_0) := (bc_ BK139.out 0).trans rfl
   have hcz6_1 : w3.cell? ⟨gb139, 1, none⟩ = some (.int .u64 a0_1) := (bc_ BK139.out 1).trans rfl
   have hcz6_2 : w3.cell? ⟨gb139, 2, none⟩ = some (.slice A0_2 l0_2.length c0_2) := (bc_ BK139.out 2).trans rfl
   have hcz6_3 : w3.cell? ⟨gb139, 3, none⟩ = some (.bool a0_3) := (bc_ BK139.out 3).trans rfl
   have hcz6_4 : w3.cell? ⟨gb139, 4, none⟩ = some (.int .i64 a0_4) := (bc_ BK139.out 4).trans rfl
   have hfz6_0 := bf_ BK139.out 0
   have hfz6_1 := bf_ BK139.out 1
   have hfz6_2 := bf_ BK139.out 2
   have hfz6_3 := bf_ BK139.out 3
   have hfz6_4 := bf_ BK139.out 4
   go_wp2
   go_meet
   case rel => exact ⟨_, (true), (by first | rfl | (simp; done) | (simp [*]; done)), H', ⟨by first | omega | exact Nat.le_refl _⟩, ⟨by (with_reducible repeat (first | refine bw_ ?_ _ | refine bx_ ?_ | refine bl_ ?_ _)); exact BK139.out⟩, ⟨by repeat (first | (with_reducible first | exact HB.out | apply ba_ | apply bn_ | apply bd_ | refine be_ ?_ GE139.out) | exact HB.out)⟩⟩
  ·rw [if_neg c5] at H
   have c5b0 : decide (a0_0 < 0) = false := decide_eq_false c5
   clear c5
   (first | rw [c5b0] | (simp only [i64_w, i32_w]; rw [c5b0]) | skip)
   by_cases c7 : a0_0 ≥ 4
   ·rw [if_pos c7] at H
    have c7b0 : decide (4 ≤ a0_0) = true := decide_eq_true c7
    clear c7
    have H' := am_ H
    clear H
    have hcz8_0 : w3.cell? ⟨gb139, 0, none⟩ = some (.int .i64 a0_0) := (bc_ BK139.out 0).trans rfl
    have hcz8_1 : w3.cell? ⟨gb139, 1, none⟩ = some (.int .u64 a0_1) := (bc_ BK139.out 1).trans rfl
    have hcz8_2 : w3.cell? ⟨gb139, 2, none⟩ = some (.slice A0_2 l0_2.length c0_2) := (bc_ BK139.out 2).trans rfl
    have hcz8_3 : w3.cell? ⟨gb139, 3, none⟩ = some (.bool a0_3) := (bc_ BK139.out 3).trans rfl
    have hcz8_4 : w3.cell? ⟨gb139, 4, none⟩ = some (.int .i64 a0_4) := (bc_ BK139.out 4).trans rfl
    have hfz8_0 := bf_ BK139.out 0
    have hfz8_1 := bf_ BK139.out 1
    have hfz8_2 := bf_ BK139.out 2
    have hfz8_3 := bf_ BK139.out 3
    have hfz8_4 := bf_ BK139.out 4
    go_wp2
    go_meet
    case rel => exact ⟨_, (true), (by first | rfl | (simp; done) | (simp [*]; done)), H', ⟨by first | omega | exact Nat.le_refl _⟩, ⟨by (with_reducible repeat (first | refine bw_ ?_ _ | refine bx_ ?_ | refine bl_ ?_ _)); exact BK139.out⟩, ⟨by repeat (first | (with_reducible first | exact HB.out | apply ba_ | apply bn_ | apply bd_ | refine be_ ?_ GE139.out) | exact HB.out)⟩⟩
   ·rw [if_neg c7] at H
    have c7b0 : decide (4 ≤ a0_0) = false := decide_eq_false c7
    clear c7
    have H' := am_ H
    clear H
    have hcz9_0 : w3.cell? ⟨gb139, 0, none⟩ = some (.int .i64 a0_0) := (bc_ BK139.out 0).trans rfl
    have hcz9_1 : w3.cell? ⟨gb139, 1, none⟩ = some (.int .u64 a0_1) := (bc_ BK139.out 1).trans rfl
    have hcz9_2 : w3.cell? ⟨gb139, 2, none⟩ = some (.slice A0_2 l0_2.length c0_2) := (bc_ BK139.out 2).trans rfl
    have hcz9_3 : w3.cell? ⟨gb139, 3, none⟩ = some (.bool a0_3) := (bc_ BK139.out 3).trans rfl
    have hcz9_4 : w3.cell? ⟨gb139, 4, none⟩ = some (.int .i64 a0_4) := (bc_ BK139.out 4).trans rfl
    have hfz9_0 := bf_ BK139.out 0
    have hfz9_1 := bf_ BK139.out 1
    have hfz9_2 := bf_ BK139.out 2
    have hfz9_3 := bf_ BK139.out 3
    have hfz9_4 := bf_ BK139.out 4
    go_wp2
    go_meet
    case rel => exact ⟨_, (decide (a0_1 < 1)), (by first | rfl | (simp; done) | (simp [*]; done)), H', ⟨by first | omega | exact Nat.le_refl _⟩, ⟨by (with_reducible repeat (first | refine bw_ ?_ _ | refine bx_ ?_ | refine bl_ ?_ _)); exact BK139.out⟩, ⟨by repeat (first | (with_reducible first | exact HB.out | apply ba_ | apply bn_ | apply bd_ | refine be_ ?_ GE139.out) | exact HB.out)⟩⟩
 case rest =>
  clear HC2
  try clear p2
  try clear c3
  try clear c5
  try clear c5b0
  try clear c7
  try clear c7b0
  try clear hcz4_0
  try clear hcz4_1
  try clear hcz4_2
  try clear hcz4_3
  try clear hcz4_4
  try clear hcz6_0
  try clear hcz6_1
  try clear hcz6_2
  try clear hcz6_3
  try clear hcz6_4
  try clear hcz8_0
  try clear hcz8_1
  try clear hcz8_2
  try clear hcz8_3
  try clear hcz8_4
  try clear hcz9_0
  try clear hcz9_1
  try clear hcz9_2
  try clear hcz9_3
  try clear hcz9_4
  try clear hfz4_0
  try clear hfz4_1
  try clear hfz4_2
  try clear hfz4_3
  try clear hfz4_4
  try clear hfz6_0
  try clear hfz6_1
  try clear hfz6_2
  try clear hfz6_3
  try clear hfz6_4
  try clear hfz8_0
  try clear hfz8_1
  try clear hfz8_2
  try clear hfz8_3
  try clear hfz8_4
  try clear hfz9_0
  try clear hfz9_1
  try clear hfz9_2
  try clear hfz9_3
  try clear hfz9_4
  obtain ⟨kq, x7_1, rfl, HA, HJ1, BK139, HB⟩ := hcut
  cases kq with
  | zero => exact absurd HA.out (by simp [conf_Right.j0])
  | succ kj1 =>
   have H := HA.out
   clear HA
   simp only [conf_Right.j0] at H
   by_cases c10 : x7_1 = true
   ·subst c10
    have H1 : (some false) = some r := by rw [if_pos rfl] at H; exact H
    clear H
    have H := H1
    clear H1
    obtain rfl := Option.some.inj H
    go_wp2
    go_ret
    exact ⟨by first | rfl | (simp [errW_none, errW_some] <;> rfl) | (simp [*, errW_none, errW_some] <;> rfl), by repeat (first | (with_reducible first | exact HB.out | apply ba_ | apply bn_ | apply bd_ | refine be_ ?_ GE139.out) | exact HB.out)⟩
   ·replace c10 := Bool.eq_false_iff.mpr c10
    subst c10
    have H1 : (if (l0_2.length : Int) < 1 then (conf_Right.j1 kj1 true a0_0 a0_1 l0_2 a0_3 a0_4) else (if (l0_2.length : Int) > 5 then (conf_Right.j1 kj1 true a0_0 a0_1 l0_2 a0_3 a0_4) else (if a0_3 = true then (if (l0_2.length : Int) < 2 then (conf_Right.j1 kj1 true a0_0 a0_1 l0_2 a0_3 a0_4) else (conf_Right.j1 kj1 (a0_4 != 0) a0_0 a0_1 l0_2 a0_3 a0_4)) else (conf_Right.j1 kj1 false a0_0 a0_1 l0_2 a0_3 a0_4)))) = some r := by rw [if_neg (show ¬ (false = true) by decide)] at H; exact H
    clear H
    have H := H1
    clear H1
    have HC11 := am_ H
    clear H
    go_upto_region 4 with (fail)
    go_cut [21] (fun v21 wc => ∃ (kq : Nat) (x21_10 : Bool), v21 = .bool x21_10 ∧ Aside0 (conf_Right.j1 kq x21_10 a0_0 a0_1 l0_2 a0_3 a0_4 = some r) ∧ Aside0 (kq ≤ kj1) ∧ Aside0 (wc.heap[gb139]? = some (.cells #[.int .i64 a0_0, .int .u64 a0_1, (.slice A0_2 l0_2.length c0_2), .bool a0_3, .int .i64 a0_4] 54 (0, 0))) ∧ Aside0 (Below w.heap.size w wc))
    case first =>
     have H := HC11.out
     clear HC11
     by_cases c12 : (l0_2.length : Int) < 1
     ·rw [if_pos c12] at H
      have c12b0 : decide ((l0_2.length : Int) < 1) = true := decide_eq_true c12
      have c12b1 : decide (l0_2.length < 1) = true := decide_eq_true (by omega)
      clear c12
      (first | rw [c12b0] | (simp only [i64_w, i32_w]; rw [c12b0]) | skip)
      have H' := am_ H
      clear H
      go_wp2
      go_meet
      case rel => exact ⟨_, (true), (by first | rfl | (simp; done) | (simp [*]; done)), H', ⟨by have := HJ1.out; first | omega | exact Nat.le_refl _⟩, ⟨by (with_reducible repeat (first | refine bw_ ?_ _ | refine bx_ ?_ | refine bl_ ?_ _)); exact BK139.out⟩, ⟨by repeat (first | (with_reducible first | exact HB.out | apply ba_ | apply bn_ | apply bd_ | refine be_ ?_ GE139.out) | exact HB.out)⟩⟩
     ·rw [if_neg c12] at H
      have c12b0 : decide ((l0_2.length : Int) < 1) = false := decide_eq_false c12
      have c12b1 : decide (l0_2.length < 1) = false := decide_eq_false (by omega)
      clear c12
      (first | rw [c12b0] | (simp only [i64_w, i32_w]; rw [c12b0]) | skip)
      by_cases c13 : (l0_2.length : Int) > 5
      ·rw [if_pos c13] at H
       have c13b0 : decide (5 < (l0_2.length : Int)) = true := decide_eq_true c13
       have c13b1 : decide (5 < l0_2.length) = true := decide_eq_true (by omega)
       clear c13
       have H' := am_ H
       clear H
       go_wp2
       go_meet
       case rel => exact ⟨_, (true), (by first | rfl | (simp; done) | (simp [*]; done)), H', ⟨by have := HJ1.out; first | omega | exact Nat.le_refl _⟩, ⟨by (with_reducible repeat (first | refine bw_ ?_ _ | refine bx_ ?_ | refine bl_ ?_ _)); exact BK139.out⟩, ⟨by repeat (first | (with_reducible first | exact HB.out | apply ba_ | apply bn_ | apply bd_ | refine be_ ?_ GE139.out) | exact HB.out)⟩⟩
      ·rw [if_neg c13] at H
       have c13b0 : decide (5 < (l0_2.length : Int)) = false := decide_eq_false c13
       have c13b1 : decide (5 < l0_2.length) = false := decide_eq_false (by omega)
       clear c13
       by_cases c14 : a0_3 = true
       ·subst c14
        have H1 : (if (l0_2.length : Int) < 2 then (conf_Right.j1 kj1 true a0_0 a0_1 l0_2 true a0_4) else (conf_Right.j1 kj1 (a0_4 != 0) a0_0 a0_1 l0_2 true a0_4)) = some r := by rw [if_pos rfl] at H; exact H
        clear H
        have H := H1
        clear H1
        by_cases c15 : (l0_2.length : Int) < 2
        ·rw [if_pos c15] at H
         have c15b0 : decide ((l0_2.length : Int) < 2) = true := decide_eq_true c15
         have c15b1 : decide (l0_2.length < 2) = true := decide_eq_true (by omega)
         clear c15
         have H' := am_ H
         clear H
         have hcz16_0 : wc.cell? ⟨gb139, 0, none⟩ = some (.int .i64 a0_0) := (bc_ BK139.out 0).trans rfl
         have hcz16_1 : wc.cell? ⟨gb139, 1, none⟩ = some (.int .u64 a0_1) := (bc_ BK139.out 1).trans rfl
         have hcz16_2 : wc.cell? ⟨gb139, 2, none⟩ = some (.slice A0_2 l0_2.length c0_2) := (bc_ BK139.out 2).trans rfl
         have hcz16_3 : wc.cell? ⟨gb139, 3, none⟩ = some (.bool true) := (bc_ BK139.out 3).trans rfl
         have hcz16_4 : wc.cell? ⟨gb139, 4, none⟩ = some (.int .i64 a0_4) := (bc_ BK139.out 4).trans rfl
         have hfz16_0 := bf_ BK139.out 0
         have hfz16_1 := bf_ BK139.out 1
         have hfz16_2 := bf_ BK139.out 2
         have hfz16_3 := bf_ BK139.out 3
         have hfz16_4 := bf_ BK139.out 4
         go_wp2
         go_meet
         case rel => exact ⟨_, (true), (by first | rfl | (simp; done) | (simp [*]; done)), H', ⟨by have := HJ1.out; first | omega | exact Nat.le_refl _⟩, ⟨by (with_reducible repeat (first | refine bw_ ?_ _ | refine bx_ ?_ | refine bl_ ?_ _)); exact BK139.out⟩, ⟨by repeat (first | (with_reducible first | exact HB.out | apply ba_ | apply bn_ | apply bd_ | refine be_ ?_ GE139.out) | exact HB.out)⟩⟩
        ·rw [if_neg c15] at H
         have c15b0 : decide ((l0_2.length : Int) < 2) = false := decide_eq_false c15
         have c15b1 : decide (l0_2.length < 2) = false := decide_eq_false (by omega)
         clear c15
         have H' := am_ H
         clear H
         have hcz17_0 : wc.cell? ⟨gb139, 0, none⟩ = some (.int .i64 a0_0) := (bc_ BK139.out 0).trans rfl
         have hcz17_1 : wc.cell? ⟨gb139, 1, none⟩ = some (.int .u64 a0_1) := (bc_ BK139.out 1).trans rfl
         have hcz17_2 : wc.cell? ⟨gb139, 2, none⟩ = some (.slice A0_2 l0_2.length c0_2) := (bc_ BK139.out 2).trans rfl
         have hcz17_3 : wc.cell? ⟨gb139, 3, none⟩ = some (.bool true) := (bc_ BK139.out 3).trans rfl
         have hcz17_4 : wc.cell? ⟨gb139, 4, none⟩ = some (.int .i64 a0_4) := (bc_ BK139.out 4).trans rfl
         have hfz17_0 := bf_ BK139.out 0
         have hfz17_1 := bf_ BK139.out 1
         have hfz17_2 := bf_ BK139.out 2
         have hfz17_3 := bf_ BK139.out 3
         have hfz17_4 := bf_ BK139.out 4
         go_wp2
         go_meet
         case rel => exact ⟨_, ((a0_4 != 0)), (by first | rfl | (simp; done) | (simp [*]; done)), H', ⟨by have := HJ1.out; first | omega | exact Nat.le_refl _⟩, ⟨by (with_reducible repeat (first | refine bw_ ?_ _ | refine bx_ ?_ | refine bl_ ?_ _)); exact BK139.out⟩, ⟨by repeat (first | (with_reducible first | exact HB.out | apply ba_ | apply bn_ | apply bd_ | refine be_ ?_ GE139.out) | exact HB.out)⟩⟩
       ·replace c14 := Bool.eq_false_iff.mpr c14
        subst c14
        have H1 : (conf_Right.j1 kj1 false a0_0 a0_1 l0_2 false a0_4) = some r := by rw [if_neg (show ¬ (false = true) by decide)] at H; exact H
        clear H
        have H := H1
        clear H1
        have H' := am_ H
        clear H
        have hcz18_0 : wc.cell? ⟨gb139, 0, none⟩ = some (.int .i64 a0_0) := (bc_ BK139.out 0).trans rfl
        have hcz18_1 : wc.cell? ⟨gb139, 1, none⟩ = some (.int .u64 a0_1) := (bc_ BK139.out 1).trans rfl
        have hcz18_2 : wc.cell? ⟨gb139, 2, none⟩ = some (.slice A0_2 l0_2.length c0_2) := (bc_ BK139.out 2).trans rfl
        have hcz18_3 : wc.cell? ⟨gb139, 3, none⟩ = some (.bool false) := (bc_ BK139.out 3).trans rfl
        have hcz18_4 : wc.cell? ⟨gb139, 4, none⟩ = some (.int .i64 a0_4) := (bc_ BK139.out 4).trans rfl
        have hfz18_0 := bf_ BK139.out 0
        have hfz18_1 := bf_ BK139.out 1
        have hfz18_2 := bf_ BK139.out 2
        have hfz18_3 := bf_ BK139.out 3
        have hfz18_4 := bf_ BK139.out 4
        go_wp2
        go_meet
        case rel => exact ⟨_, (false), (by first | rfl | (simp; done) | (simp [*]; done)), H', ⟨by have := HJ1.out; first | omega | exact Nat.le_refl _⟩, ⟨by (with_reducible repeat (first | refine bw_ ?_ _ | refine bx_ ?_ | refine bl_ ?_ _)); exact BK139.out⟩, ⟨by repeat (first | (with_reducible first | exact HB.out | apply ba_ | apply bn_ | apply bd_ | refine be_ ?_ GE139.out) | exact HB.out)⟩⟩
    case rest =>
     clear HC11
     try clear c1
     try clear p2
     try clear c3
     try clear c5
     try clear c5b0
     try clear c7
     try clear c7b0
     try clear c10
     try clear c12
     try clear c12b0
     try clear c12b1
     try clear c13
     try clear c13b0
     try clear c13b1
     try clear c14
     try clear c15
     try clear c15b0
     try clear c15b1
     try clear hcz16_0
     try clear hcz16_1
     try clear hcz16_2
     try clear hcz16_3
     try clear hcz16_4
     try clear hcz17_0
     try clear hcz17_1
     try clear hcz17_2
     try clear hcz17_3
     try clear hcz17_4
     try clear hcz18_0
     try clear hcz18_1
     try clear hcz18_2
     try clear hcz18_3
     try clear hcz18_4
     try clear hcz4_0
     try clear hcz4_1
     try clear hcz4_2
     try clear hcz4_3
     try clear hcz4_4
     try clear hcz6_0
     try clear hcz6_1
     try clear hcz6_2
     try clear hcz6_3
     try clear hcz6_4
     try clear hcz8_0
     try clear hcz8_1
     try clear hcz8_2
     try clear hcz8_3
     try clear hcz8_4
     try clear hcz9_0
     try clear hcz9_1
     try clear hcz9_2
     try clear hcz9_3
     try clear hcz9_4
     try clear hfz16_0
     try clear hfz16_1
     try clear hfz16_2
     try clear hfz16_3
     try clear hfz16_4
     try clear hfz17_0
     try clear hfz17_1
     try clear hfz17_2
     try clear hfz17_3
     try clear hfz17_4
     try clear hfz18_0
     try clear hfz18_1
     try clear hfz18_2
     try clear hfz18_3
     try clear hfz18_4
     try clear hfz4_0
     try clear hfz4_1
     try clear hfz4_2
     try clear hfz4_3
     try clear hfz4_4
     try clear hfz6_0
     try clear hfz6_1
     try clear hfz6_2
     try clear hfz6_3
     try clear hfz6_4
     try clear hfz8_0
     try clear hfz8_1
     try clear hfz8_2
     try clear hfz8_3
     try clear hfz8_4
     try clear hfz9_0
     try clear hfz9_1
     try clear hfz9_2
     try clear hfz9_3
     try clear hfz9_4
     try clear p2
     obtain ⟨kq, x21_10, rfl, HA, HJ10, BK139, HB⟩ := hcut
     cases kq with
     | zero => exact absurd HA.out (by simp [conf_Right.j1])
     | succ kj10 =>
      have H := HA.out
      clear HA
      simp only [conf_Right.j1] at H
      by_cases c19 : x21_10 = true
      ·subst c19
       have H1 : (some false) = some r := by rw [if_pos rfl] at H; exact H
       clear H
       have H := H1
       clear H1
       obtain rfl := Option.some.inj H
       go_wp2
       go_ret
       exact ⟨by first | rfl | (simp [errW_none, errW_some] <;> rfl) | (simp [*, errW_none, errW_some] <;> rfl), by repeat (first | (with_reducible first | exact HB.out | apply ba_ | apply bn_ | apply bd_ | refine be_ ?_ GE139.out) | exact HB.out)⟩
      ·replace c19 := Bool.eq_false_iff.mpr c19
       subst c19
       have H1 : ((conf_everybody.f a0_0 a0_1 l0_2 a0_3 a0_4).bind fun t140 => ((conf_unlike.f kj10 t140).bind fun t143 => (some t143))) = some r := by rw [if_neg (show ¬ (false = true) by decide)] at H; exact H
       clear H
       have H := H1
       clear H1
       replace H := Option.bind_eq_some_iff.mp H
       obtain ⟨t140, A200, H⟩ := H
       replace H : ((conf_unlike.f kj10 t140).bind fun t143 => (some t143)) = some r := H
       have A20 := am_ A200
       clear A200
       replace H := Option.bind_eq_some_iff.mp H
       obtain ⟨t143, A210, H⟩ := H
       replace H : (some t143) = some r := H
       have A21 := am_ A210
       clear A210
       obtain rfl := Option.some.inj H
       have hcz22_0 : wc.cell? ⟨gb139, 0, none⟩ = some (.int .i64 a0_0) := (bc_ BK139.out 0).trans rfl
       have hcz22_1 : wc.cell? ⟨gb139, 1, none⟩ = some (.int .u64 a0_1) := (bc_ BK139.out 1).trans rfl
       have hcz22_2 : wc.cell? ⟨gb139, 2, none⟩ = some (.slice A0_2 l0_2.length c0_2) := (bc_ BK139.out 2).trans rfl
       have hcz22_3 : wc.cell? ⟨gb139, 3, none⟩ = some (.bool a0_3) := (bc_ BK139.out 3).trans rfl
       have hcz22_4 : wc.cell? ⟨gb139, 4, none⟩ = some (.int .i64 a0_4) := (bc_ BK139.out 4).trans rfl
       have hfz22_0 := bf_ BK139.out 0
       have hfz22_1 := bf_ BK139.out 1
       have hfz22_2 := bf_ BK139.out 2
       have hfz22_3 := bf_ BK139.out 3
       have hfz22_4 := bf_ BK139.out 4
       go_wp2_with (first | ((with_reducible refine gate_callee (f := 67) rfl ?_); refine goesL_ (some 42) rfl rfl Tryd.func67 (by kernel_rfl) rfl #[.agg #[.int .i64 a0_0, .int .u64 a0_1, .slice A0_2 l0_2.length c0_2, .bool a0_3, .int .i64 a0_4]] rfl (by (try simp only [List.map_toArray, List.map_cons, List.map_nil]); first | done | rfl | (simp only [List.length_drop, lt_]; rfl)) ?_; (with_reducible refine (conf_everybody.calls a0_0 a0_1 _ _ l0_2 a0_3 a0_4 t140 _ ?side1 ?side2 A20.out).mono ?_); (case side1 => repeat (first | exact (Kd.C_below HR0_2.out HB.out) | (with_reducible refine Kd.C_alloc ?_ _) | (with_reducible refine Kd.C_drewN ?_ _) | (with_reducible refine Kd.C_drew ?_))); (case side2 => exact HC0_2.out); rintro e w23 ⟨v141, rfl, ho0, hb⟩; refine ⟨_, rfl, ?_⟩; have n0_ := am_ (Kd.R_lower ho0 (bs_ (by repeat (first | (with_reducible first | exact HB.out | apply ba_ | apply bn_ | apply bd_ | refine be_ ?_ GE139.out) | exact HB.out)))); have n1_ := am_ (blk_below (g := gb139) (o := .cells #[.int .i64 a0_0, .int .u64 a0_1, .slice A0_2 l0_2.length c0_2, .bool a0_3, .int .i64 a0_4] 54 (0, 0)) (by (with_reducible repeat (first | refine bw_ ?_ _ | refine bx_ ?_ | refine bl_ ?_ _)); exact BK139.out) hb); have n2_ := am_ (bt_ (by repeat (first | (with_reducible first | exact HB.out | apply ba_ | apply bn_ | apply bd_ | refine be_ ?_ GE139.out) | exact HB.out)) hb); clear BK139; clear HB; have HO142 := n0_; have BK139 := n1_; have HB := n2_; clear n0_ n1_ n2_; (try clear hb); (try clear hb2); (try clear hk); (try clear hi); (try clear ho0); obtain ⟨Ao24, co24, eo24⟩ := Kd.R_slice HO142.out; subst eo24) | ((with_reducible refine gate_callee (f := 66) rfl ?_); refine goesL_ (some 43) rfl rfl Tryd.func66 (by kernel_rfl) rfl #[.slice Ao24 t140.length co24] rfl (by (try simp only [List.map_toArray, List.map_cons, List.map_nil]); first | done | rfl | (simp only [List.length_drop, lt_]; rfl)) ?_; (with_reducible refine (conf_unlike.calls kj10 _ _ t140 t143 _ ?side1 ?side2 A21.out).mono ?_); (case side1 => repeat (first | exact (Kd.R_reads' HO142.out).2.2 | (with_reducible refine Kd.C_alloc ?_ _) | (with_reducible refine Kd.C_drewN ?_ _) | (with_reducible refine Kd.C_drew ?_))); (case side2 => exact (Kd.R_reads' HO142.out).2.1); rintro e w' ⟨rfl, ⟨nd, rfl⟩⟩; refine ⟨_, rfl, ?_⟩))
       go_ret
       exact ⟨by first | rfl | (simp [errW_none, errW_some] <;> rfl) | (simp [*, errW_none, errW_some] <;> rfl), by repeat (first | (with_reducible first | exact HB.out | apply ba_ | apply bn_ | apply bd_ | refine be_ ?_ GE139.out) | exact HB.out)⟩
end Go.Proofs.YtlpkandfmbnlnaaDoor.Q
end
section
namespace Go.Proofs.YtlpkandfmbnlnaaDoor.Q
open Go.RowKit Go.Proofs.YtlpkandfmbnlnaaDoor.Q Go.Proofs.YtlpkandfmbnlnaaDoorW.PrintWords Go.Proofs.YtlpkandfmbnlnaaDoorW.PrintLast Go.Proofs.YtlpkandfmbnlnaaDoorW.PrintMore
set_option linter.unusedVariables false
set_option linter.unusedSimpArgs false
set_option maxRecDepth 100000
theorem rule_ne (x n : Int) (B : Nat) (w : World) (hn : w.cell? ⟨B, 0, none⟩ = some (.int .i64 n)) : Calls Tryd.prog 128 #[.int .i64 x, .pointer (some ⟨B, 0, none⟩)] w fun e w' => e = .returned (.bool (x != n)) ∧ w' = w := by
 go_enter Tryd.func128, Tryd.ntmps128
 go_wp2_with fail
 go_ret
 exact ⟨rfl, rfl⟩
theorem rule_eq (x n : Int) (B : Nat) (w : World) (hn : w.cell? ⟨B, 0, none⟩ = some (.int .i64 n)) : Calls Tryd.prog 131 #[.int .i64 x, .pointer (some ⟨B, 0, none⟩)] w fun e w' => e = .returned (.bool (x == n)) ∧ w' = w := by
 go_enter Tryd.func131, Tryd.ntmps131
 go_wp2_with fail
 go_ret
 exact ⟨rfl, rfl⟩
def fi (p : Int → Bool) : List Int → Nat → Int
 | [], _ => -1
 | x :: r, j => if p x = true then (j : Int) else fi p r (j + 1)
theorem fi_ge (p : Int → Bool) : ∀ (l : List Int) (j : Nat), decide (fi p l j ≥ 0) = l.any p
 | [], j => by simp [fi]
 | x :: r, j => by
  unfold fi
  by_cases h : p x = true
  ·simp [h]
  ·have h2 : p x = false := by simpa using h
   rw [if_neg h, fi_ge p r (j + 1)]
   simp [h2]
theorem indexi_128 (p : Int → Bool) (B : Nat) (A0 : Option Addr) (c0 : Nat) (l0 : List Int) (w : World) (hr : Kd.C (Kd.int .i64) w A0 l0.length l0)
  (hF : ∀ x, Calls Tryd.prog 128 #[.int .i64 x, .pointer (some ⟨B, 0, none⟩)] w fun e w' => e = .returned (.bool (p x)) ∧ w' = w) :
  Calls Tryd.prog 150 #[.slice A0 l0.length c0, .func (.func 128) #[] #[.pointer (some ⟨B, 0, none⟩)]] w fun e w' => e = .returned (.int .i64 (fi p l0 0)) ∧ w = w' := by
 have hlen := hr.2.1
 have HR := Lib.hid hr
 have HF := Lib.hid hF
 clear hr hF
 go_enter Tryd.func150, Tryd.ntmps150
 go_wp2_with fail
 go_loopw [8] (fun i wr => ∃ j : Nat, j ≤ l0.length ∧ i = .int .i64 j ∧ Hid (fi p (l0.drop j) j = fi p l0 0 ∧ w = wr)) (fun i _ => l0.length - (intOf i).toNat)
 case atStart => exact ⟨0, by omega, rfl, by simp, rfl⟩
 case round =>
  obtain ⟨j, hj, rfl, HI⟩ := hrel
  obtain ⟨hu, rfl⟩ := HI.out
  by_cases hlt : j < l0.length
  ·have b1 : decide ((j : Int) < l0.length) = true := by simp; omega
   rw [List.drop_eq_getElem_cons hlt] at hu
   obtain ⟨ad, rfl, x0⟩ := Kd.at_int HR.out (j : Int) (by omega) (by omega)
   have hx : rd l0 (j : Int) = l0[j] := by simp [rd, List.getD, hlt]
   rw [hx, Int.toNat_natCast] at x0
   have HU := Lib.hid (HF.out l0[j])
   have hu2 : (if p l0[j] = true then (j : Int) else fi p (l0.drop (j + 1)) (j + 1)) = fi p l0 0 := hu
   have HX := Lib.hid hu2
   generalize l0[j] = x at *
   clear hu hu2 HI hx
   cases hp : p x with
   | true =>
    rw [hp] at HU
    have e1 : (j : Int) = fi p l0 0 := by have := HX.out; rwa [if_pos hp] at this
    have HE1 := Lib.hid e1
    clear HX e1
    go_wp2_with fail
    refine HU.out.mono ?_
    rintro e w1 ⟨rfl, rfl⟩
    go_wp2_with fail
    go_ret
    exact ⟨by rw [← HE1.out]; rfl, rfl⟩
   | false =>
    rw [hp] at HU
    have e1 : fi p (l0.drop (j + 1)) (j + 1) = fi p l0 0 := by have := HX.out; rwa [if_neg (by simp [hp])] at this
    have HE1 := Lib.hid e1
    clear HX e1
    go_wp2_with fail
    refine HU.out.mono ?_
    rintro e w1 ⟨rfl, rfl⟩
    go_wp2_with fail
    go_roundw
    case rel => exact ⟨j + 1, by omega, by go_num, HE1.out, trivial⟩
    case measure => simp [intOf]; omega
  ·have hjl : j = l0.length := by omega
   have b1 : decide ((j : Int) < l0.length) = false := by simp; omega
   have hr1 : -1 = fi p l0 0 := by
    rw [hjl, List.drop_of_length_le (Nat.le_refl _)] at hu
    exact hu
   have HE1 := Lib.hid hr1
   clear hu HI hr1
   go_wp2_with fail
   go_ret
   exact ⟨by rw [← HE1.out]; rfl, rfl⟩
theorem containsi_128 (p : Int → Bool) (B : Nat) (A0 : Option Addr) (c0 : Nat) (l0 : List Int) (w : World) (hr : Kd.C (Kd.int .i64) w A0 l0.length l0)
  (hF : ∀ x, Calls Tryd.prog 128 #[.int .i64 x, .pointer (some ⟨B, 0, none⟩)] w fun e w' => e = .returned (.bool (p x)) ∧ w' = w) :
  Calls Tryd.prog 127 #[.slice A0 l0.length c0, .func (.func 128) #[] #[.pointer (some ⟨B, 0, none⟩)]] w fun e w' => e = .returned (.bool (l0.any p)) ∧ w = w' := by
 have HI := Lib.hid (indexi_128 p B A0 c0 l0 w hr hF)
 clear hr hF
 go_enter Tryd.func127, Tryd.ntmps127
 go_wp2_with fail
 refine HI.out.mono ?_
 rintro e w1 ⟨rfl, rfl⟩
 go_wp2_with fail
 go_ret
 exact ⟨by rw [← fi_ge p l0 0]; rfl, rfl⟩
def conf_canRemove.f (k : Nat) (l0 : List S54) (a1_0 : Int) (a1_1 : Int) (l1_2 : List Int) (a1_3 : Bool) (a1_4 : Int) (a2 : Int) : Option Int :=
 (conf_everybody.f a1_0 a1_1 l1_2 a1_3 a1_4).bind fun e => (slices_Contains_int_int.f k e a2).bind fun b => if b = true then (conf_settled.f a1_0 a1_1 l1_2 a1_3 a1_4).bind fun s => some (if s.any (fun x => x != a2) = true then 0 else 12) else some 7
set_option maxHeartbeats 4000000 in
theorem conf_canRemove.calls (k : Nat) (A0 : Option Addr) (c0 : Nat) (l0 : List (S54)) (a1_0 : Int) (a1_1 : Int) (A1_2 : Option Addr) (c1_2 : Nat) (l1_2 : List Int) (a1_3 : Bool) (a1_4 : Int) (a2 : Int) (r : Int) (w : World) (hr0 : Kd.C k54 w A0 l0.length l0) (hc0 : l0.length ≤ c0) (hr1_2 : Kd.C (Kd.int .i64) w A1_2 l1_2.length l1_2) (hc1_2 : l1_2.length ≤ c1_2) (h : conf_canRemove.f k l0 a1_0 a1_1 l1_2 a1_3 a1_4 a2 = some r) :
  Calls Tryd.prog 94 #[.slice A0 l0.length c0, .agg #[.int .i64 a1_0, .int .u64 a1_1, .slice A1_2 l1_2.length c1_2, .bool a1_3, .int .i64 a1_4], .int .i64 a2] w fun e w' => e = .returned (.int .i64 r) ∧ Below w.heap.size w w' := by
 unfold conf_canRemove.f at h
 obtain ⟨es, he, h2⟩ := Option.bind_eq_some_iff.1 h
 obtain ⟨b, hk, h3⟩ := Option.bind_eq_some_iff.1 h2
 have hmf : ∀ (fn : Fn) (first cap : Array Value) (w : World), (Instr.makeFunc fn first cap).run Tryd.prog w = .ok (.func fn first cap) w := fun _ _ _ _ => rfl
 have HE := fun W hb => Lib.hid (conf_everybody.calls a1_0 a1_1 A1_2 c1_2 l1_2 a1_3 a1_4 es W (Kd.C_below hr1_2 hb) hc1_2 he)
 have HS := fun W hb s hs => Lib.hid (conf_settled.calls a1_0 a1_1 A1_2 c1_2 l1_2 a1_3 a1_4 s W (Kd.C_below hr1_2 hb) hc1_2 hs)
 have HK := Lib.hid hk
 have H3 := Lib.hid h3
 have HC0 := Lib.hid hc0
 clear h h2 h3 he hk hr0 hr1_2 hc0 hc1_2
 go_enter Tryd.func94, Tryd.ntmps94
 go_wp2_with fail
 have hb0 : Below w.heap.size w ((w.alloc (.cells #[.int .i64 a1_0, .int .u64 a1_1, .slice A1_2 l1_2.length c1_2, .bool a1_3, .int .i64 a1_4] 54)).alloc (.cells #[.int .i64 a2] 3)) := by go_grown
 have HB0 := Lib.hid hb0.drew
 have u0 : ((w.alloc (.cells #[.int .i64 a1_0, .int .u64 a1_1, .slice A1_2 l1_2.length c1_2, .bool a1_3, .int .i64 a1_4] 54)).alloc (.cells #[.int .i64 a2] 3)).cell? ⟨w.heap.size, 0, none⟩ = some (.int .i64 a1_0) := by go_simp
 have u1 : ((w.alloc (.cells #[.int .i64 a1_0, .int .u64 a1_1, .slice A1_2 l1_2.length c1_2, .bool a1_3, .int .i64 a1_4] 54)).alloc (.cells #[.int .i64 a2] 3)).cell? ⟨w.heap.size, 1, none⟩ = some (.int .u64 a1_1) := by go_simp
 have u2 : ((w.alloc (.cells #[.int .i64 a1_0, .int .u64 a1_1, .slice A1_2 l1_2.length c1_2, .bool a1_3, .int .i64 a1_4] 54)).alloc (.cells #[.int .i64 a2] 3)).cell? ⟨w.heap.size, 2, none⟩ = some (.slice A1_2 l1_2.length c1_2) := by go_simp
 have u3 : ((w.alloc (.cells #[.int .i64 a1_0, .int .u64 a1_1, .slice A1_2 l1_2.length c1_2, .bool a1_3, .int .i64 a1_4] 54)).alloc (.cells #[.int .i64 a2] 3)).cell? ⟨w.heap.size, 3, none⟩ = some (.bool a1_3) := by go_simp
 have u4 : ((w.alloc (.cells #[.int .i64 a1_0, .int .u64 a1_1, .slice A1_2 l1_2.length c1_2, .bool a1_3, .int .i64 a1_4] 54)).alloc (.cells #[.int .i64 a2] 3)).cell? ⟨w.heap.size, 4, none⟩ = some (.int .i64 a1_4) := by go_simp
 have u5 : ((w.alloc (.cells #[.int .i64 a1_0, .int .u64 a1_1, .slice A1_2 l1_2.length c1_2, .bool a1_3, .int .i64 a1_4] 54)).alloc (.cells #[.int .i64 a2] 3)).cell? ⟨w.heap.size + 1, 0, none⟩ = some (.int .i64 a2) := by go_simp
 have hsz : ((w.alloc (.cells #[.int .i64 a1_0, .int .u64 a1_1, .slice A1_2 l1_2.length c1_2, .bool a1_3, .int .i64 a1_4] 54)).alloc (.cells #[.int .i64 a2] 3)).heap.size = w.heap.size + 1 + 1 := by simp
 have HU : Hid (∀ W, Below (w.heap.size + 1 + 1) ((w.alloc (.cells #[.int .i64 a1_0, .int .u64 a1_1, .slice A1_2 l1_2.length c1_2, .bool a1_3, .int .i64 a1_4] 54)).alloc (.cells #[.int .i64 a2] 3)) W → W.cell? ⟨w.heap.size, 0, none⟩ = some (.int .i64 a1_0) ∧ W.cell? ⟨w.heap.size, 1, none⟩ = some (.int .u64 a1_1) ∧ W.cell? ⟨w.heap.size, 2, none⟩ = some (.slice A1_2 l1_2.length c1_2) ∧ W.cell? ⟨w.heap.size, 3, none⟩ = some (.bool a1_3) ∧ W.cell? ⟨w.heap.size, 4, none⟩ = some (.int .i64 a1_4) ∧ W.cell? ⟨w.heap.size + 1, 0, none⟩ = some (.int .i64 a2)) := Lib.hid (fun W hW => ⟨(hW.cell (p := ⟨w.heap.size, 0, none⟩) (by simp; omega)).trans u0, (hW.cell (p := ⟨w.heap.size, 1, none⟩) (by simp; omega)).trans u1, (hW.cell (p := ⟨w.heap.size, 2, none⟩) (by simp; omega)).trans u2, (hW.cell (p := ⟨w.heap.size, 3, none⟩) (by simp; omega)).trans u3, (hW.cell (p := ⟨w.heap.size, 4, none⟩) (by simp; omega)).trans u4, (hW.cell (p := ⟨w.heap.size + 1, 0, none⟩) (by simp)).trans u5⟩)
 have HSz := Lib.hid hsz
 clear hb0 hsz
 go_region_with (first
  | (go_at_call 67; refine (HE _ HB0.out).out.mono ?_; rintro e w1 ⟨v, rfl, h1, h2⟩; obtain ⟨A1, c1, rfl, hc1, hC1⟩ := Kd.R_reads h1; have HC1 := Lib.hid hC1; have HW1 := Lib.hid (HB0.out.trans (h2.mono HB0.out.size)); have HX1 := Lib.hid (show Below (w.heap.size + 1 + 1) ((w.alloc (.cells #[.int .i64 a1_0, .int .u64 a1_1, .slice A1_2 l1_2.length c1_2, .bool a1_3, .int .i64 a1_4] 54)).alloc (.cells #[.int .i64 a2] 3)) w1 from HSz.out ▸ ((Below.refl _ _).drew.trans h2)); have hn2 := (HU.out w1 HX1.out).2.2.2.2.2; clear h1 h2 hC1)
  | (go_at_call 73; refine (slices_Contains_int_int.calls k _ _ es a2 b _ HC1.out hc1 HK.out).mono ?_; rintro e w2 ⟨rfl, q, rfl⟩))
 all_goals (
  have HD := Lib.hid (HW1.out.trans ((Joins.below_draws w1.heap.size w1 q).mono HW1.out.size))
  have HXd := Lib.hid (HX1.out.trans ((Joins.below_draws w1.heap.size w1 q).mono (by have := HX1.out.size; rw [HSz.out] at this; exact this)))
  cases b with
  | false =>
   have h7 : (7 : Int) = r := Option.some.inj (by simpa using H3.out)
   subst h7
   go_wp2_with fail
   go_ret
   exact ⟨rfl, HD.out⟩
  | true =>
   obtain ⟨s, hs, hrr⟩ := Option.bind_eq_some_iff.1 (show ((conf_settled.f a1_0 a1_1 l1_2 a1_3 a1_4).bind fun s => some (if s.any (fun x => x != a2) = true then (0 : Int) else 12)) = some r by simpa using H3.out)
   have hrr := Option.some.inj hrr
   obtain ⟨an, han⟩ : ∃ an, s.any (fun x => x != a2) = an := ⟨_, rfl⟩
   rw [han] at hrr
   have HRR := Lib.hid hrr
   have HAN := Lib.hid han
   clear hrr han
   obtain ⟨d0, d1, d2, d3, d4, d5⟩ := HU.out _ HXd.out
   have HS2 := HS _ HD.out s hs
   clear H3 HS HE HK hs
   go_wp2_with fail
   refine HS2.out.mono ?_
   rintro e w3 ⟨v3, rfl, g1, g2⟩
   obtain ⟨A3, c3, rfl, hc3, hC3⟩ := Kd.R_reads g1
   have HB3 := Lib.hid (HD.out.trans (g2.mono HD.out.size))
   have n3 := (HU.out w3 (HXd.out.trans (g2.mono (by have := HXd.out.size; rw [HSz.out] at this; exact this)))).2.2.2.2.2
   have hci := containsi_128 (fun x => x != a2) (w.heap.size + 1) A3 c3 s w3 hC3 (fun x => rule_ne x a2 _ w3 n3)
   rw [HAN.out] at hci
   have HCi := Lib.hid hci
   clear hci
   clear g1 g2 hC3 hc3 n3
   go_wp2_with fail
   refine HCi.out.mono ?_
   rintro e w4 ⟨rfl, rfl⟩
   cases an with
   | true =>
    have h0 : (0 : Int) = r := by simpa using HRR.out
    subst h0
    go_wp2_with fail
    go_ret
    exact ⟨rfl, HB3.out⟩
   | false =>
    have h0 : (12 : Int) = r := by simpa using HRR.out
    subst h0
    go_wp2_with fail
    go_ret
    exact ⟨rfl, HB3.out⟩)
end Go.Proofs.YtlpkandfmbnlnaaDoor.Q
end
section
namespace Go.Proofs.YtlpkandfmbnlnaaDoor.Q
end Go.Proofs.YtlpkandfmbnlnaaDoor.Q
namespace Go.Proofs.YtlpkandfmbnlnaaDoor.R
end Go.Proofs.YtlpkandfmbnlnaaDoor.R
namespace Go.Proofs.YtlpkandfmbnlnaaDoor.Q
open Go.RowKit Go.Proofs.YtlpkandfmbnlnaaDoorW.PrintWords Go.Proofs.YtlpkandfmbnlnaaDoorW.PrintLast Go.Proofs.YtlpkandfmbnlnaaDoorW.PrintMore
attribute [local go_sem] max2_int min2_int max_two min_two max_three min_three max_four min_four   -- for this text's walks alone
set_option linter.unusedVariables false
set_option linter.unusedSimpArgs false
open Go.Proofs.YtlpkandfmbnlnaaDoor.Q Go.Proofs.YtlpkandfmbnlnaaDoor.R
mutual
def conf_All.j0 : Nat → List (S54) → Bool → Option (Bool)
 | 0, _, _ => none
 | k + 1, x0, x13 => if x13 = true then (some false) else (conf_All.l0 k ([] : List Int) x0 (x0.length : Int) 0)
def conf_All.l0 : Nat → List Int → List (S54) → Int → Int → Option (Bool)
 | 0, _, _, _, _ => none
 | k + 1, x3, x14, x15, x16 => if x16 < x15 then (if 0 ≤ x16 then (if x16 < (x14.length : Int) then (if ((rd_T54 x14 x16).f0) = x16 then ((conf_Right.f k ((rd_T54 x14 x16).f0) ((rd_T54 x14 x16).f1) ((rd_T54 x14 x16).f2) ((rd_T54 x14 x16).f3) ((rd_T54 x14 x16).f4)).bind fun t147 => (if t147 = true then ((conf_everybody.f ((rd_T54 x14 x16).f0) ((rd_T54 x14 x16).f1) ((rd_T54 x14 x16).f2) ((rd_T54 x14 x16).f3) ((rd_T54 x14 x16).f4)).bind fun t148 => (if x3.length + t148.length < 17592186044416 then (conf_All.l0 k (x3 ++ t148) x14 x15 (wrap64 (x16 + 1))) else (none))) else (some false))) else (some false)) else (none)) else (none)) else ((conf_unlike.f k x3).bind fun t144 => (some t144))
end
def conf_All.f (k : Nat) (l0 : List (S54)) : Option (Bool) := if (l0.length : Int) < 1 then (conf_All.j0 k l0 true) else (conf_All.j0 k l0 (decide ((l0.length : Int) > 4)))
set_option maxHeartbeats 8000000 in
set_option maxRecDepth 100000 in
theorem conf_All.calls (k : Nat) (A0 : Option Addr) (c0 : Nat) (l0 : List (S54)) (r : Bool) (w : World) (hr0 : Kd.C k54 w A0 l0.length l0) (hc0 : l0.length ≤ c0) (h : conf_All.f k l0 = some r) :
  Calls Tryd.prog 33 #[.slice A0 l0.length c0] w fun e w' => e = .returned (.bool r) ∧ Below w.heap.size w w' := by
 have hu54 := Tryd.underlying54
 have HR0 := am_ hr0
 have HC0 := am_ hc0
 clear hr0 hc0
 have HB := am_ (Below.refl w.heap.size w)
 have H : (if (l0.length : Int) < 1 then (conf_All.j0 k l0 true) else (conf_All.j0 k l0 (decide ((l0.length : Int) > 4)))) = some r := h
 clear h
 have HC2 := am_ H
 clear H
 go_enter Tryd.func33, Tryd.ntmps33
 go_upto_region 1 with (fail)
 go_cut [13] (fun v13 wc => ∃ (kq : Nat) (x13_1 : Bool), v13 = .bool x13_1 ∧ Aside0 (conf_All.j0 kq l0 x13_1 = some r) ∧ Aside0 (kq ≤ k) ∧ Aside0 (Below w.heap.size w wc))
 case first =>
  have H := HC2.out
  clear HC2
  by_cases c3 : (l0.length : Int) < 1
  ·rw [if_pos c3] at H
   have c3b0 : decide ((l0.length : Int) < 1) = true := decide_eq_true c3
   have c3b1 : decide (l0.length < 1) = true := decide_eq_true (by omega)
   clear c3
   (first | rw [c3b0] | (simp only [i64_w, i32_w]; rw [c3b0]) | skip)
   have H' := am_ H
   clear H
   go_wp2
   go_meet
   case rel => exact ⟨_, (true), (by first | rfl | (simp; done) | (simp [*]; done)), H', ⟨by first | omega | exact Nat.le_refl _⟩, ⟨by repeat (first | (with_reducible first | exact HB.out | apply ba_ | apply bn_ | apply bd_) | exact HB.out)⟩⟩
  ·rw [if_neg c3] at H
   have c3b0 : decide ((l0.length : Int) < 1) = false := decide_eq_false c3
   have c3b1 : decide (l0.length < 1) = false := decide_eq_false (by omega)
   clear c3
   (first | rw [c3b0] | (simp only [i64_w, i32_w]; rw [c3b0]) | skip)
   have H' := am_ H
   clear H
   go_wp2
   go_meet
   case rel => exact ⟨_, (decide ((l0.length : Int) > 4)), (by first | rfl | (simp; done) | (simp [*]; done)), H', ⟨by first | omega | exact Nat.le_refl _⟩, ⟨by repeat (first | (with_reducible first | exact HB.out | apply ba_ | apply bn_ | apply bd_) | exact HB.out)⟩⟩
 case rest =>
  clear HC2
  try clear p2
  try clear c3
  try clear c3b0
  try clear c3b1
  obtain ⟨kq, x13_1, rfl, HA, HJ1, HB⟩ := hcut
  cases kq with
  | zero => exact absurd HA.out (by simp [conf_All.j0])
  | succ kj1 =>
   have H := HA.out
   clear HA
   simp only [conf_All.j0] at H
   by_cases c4 : x13_1 = true
   ·subst c4
    have H1 : (some false) = some r := by rw [if_pos rfl] at H; exact H
    clear H
    have H := H1
    clear H1
    obtain rfl := Option.some.inj H
    go_wp2
    go_ret
    exact ⟨by first | rfl | (simp [errW_none, errW_some] <;> rfl) | (simp [*, errW_none, errW_some] <;> rfl), by repeat (first | (with_reducible first | exact HB.out | apply ba_ | apply bn_ | apply bd_) | exact HB.out)⟩
   ·replace c4 := Bool.eq_false_iff.mpr c4
    subst c4
    have H1 : (conf_All.l0 kj1 ([] : List Int) l0 (l0.length : Int) 0) = some r := by rw [if_neg (show ¬ (false = true) by decide)] at H; exact H
    clear H
    have H := H1
    clear H1
    have H' := am_ H
    clear H
    go_wp2
    go_loopg [3, 16] kj1 (fun kq v3 v16 w' => ∃ (x3_2 : List Int) (x16_2 : Int), v16 = .int .i64 x16_2 ∧ Aside0 (conf_All.l0 kq x3_2 l0 (l0.length : Int) x16_2 = some r) ∧ Aside0 (kq ≤ kj1) ∧ Aside0 (Kd.R (Kd.int .i64) 3 w' w.heap.size (fun _ => True) v3 x3_2) ∧ Aside0 (Below w.heap.size w w'))
    case atStart => exact ⟨(([] : List Int)), (0), (by first | rfl | (simp; done) | (simp [*]; done)), H', ⟨Nat.le_refl _⟩, ⟨by first | exact Kd.R_nil _ _ _ _ _ | exact Kd.N_nil _ _ _ _ _ | exact Kd.V_nil _ _ _ _ _ | exact Kd.Q_nil _ _ _ _ _ | exact Kd.S_nil _ _ _ _ _⟩, ⟨by repeat (first | (with_reducible first | exact HB.out | apply ba_ | apply bn_ | apply bd_) | exact HB.out)⟩⟩
    case round =>
     clear H'
     try clear p2
     try clear c3
     try clear c3b0
     try clear c3b1
     try clear c4
     try clear p2
     obtain ⟨x3_2, x16_2, rfl, HA, HK2, HO_3, HB⟩ := hrel
     cases gk with
     | zero => exact absurd HA.out (by simp [conf_All.l0])
     | succ k2 =>
      have H := HA.out
      clear HA
      simp only [conf_All.l0] at H
      by_cases c5 : x16_2 < (l0.length : Int)
      ·rw [if_pos c5] at H
       have c5b0 : decide (x16_2 < (l0.length : Int)) = true := decide_eq_true c5
       clear c5
       by_cases c6 : 0 ≤ x16_2
       ·rw [if_pos c6] at H
        have c6b0 : decide (0 ≤ x16_2) = true := decide_eq_true c6
        clear c6
        by_cases c7 : x16_2 < (l0.length : Int)
        ·rw [if_pos c7] at H
         have c7b0 : decide (x16_2 < (l0.length : Int)) = true := decide_eq_true c7
         clear c7
         by_cases c8 : ((rd_T54 l0 x16_2).f0) = x16_2
         ·rw [if_pos c8] at H
          have c8b0 : (((rd_T54 l0 x16_2).f0) == x16_2) = true := beq_iff_eq.mpr c8
          have c8b1 : (((rd_T54 l0 x16_2).f0) != x16_2) = false := bne_eq_false_iff_eq.mpr c8
          clear c8
          replace H := Option.bind_eq_some_iff.mp H
          obtain ⟨t147, A90, H⟩ := H
          replace H : (if t147 = true then ((conf_everybody.f ((rd_T54 l0 x16_2).f0) ((rd_T54 l0 x16_2).f1) ((rd_T54 l0 x16_2).f2) ((rd_T54 l0 x16_2).f3) ((rd_T54 l0 x16_2).f4)).bind fun t148 => (if x3_2.length + t148.length < 17592186044416 then (conf_All.l0 k2 (x3_2 ++ t148) l0 (l0.length : Int) (wrap64 (x16_2 + 1))) else (none))) else (some false)) = some r := H
          have A9 := am_ A90
          clear A90
          by_cases c10 : t147 = true
          ·subst c10
           have H1 : ((conf_everybody.f ((rd_T54 l0 x16_2).f0) ((rd_T54 l0 x16_2).f1) ((rd_T54 l0 x16_2).f2) ((rd_T54 l0 x16_2).f3) ((rd_T54 l0 x16_2).f4)).bind fun t148 => (if x3_2.length + t148.length < 17592186044416 then (conf_All.l0 k2 (x3_2 ++ t148) l0 (l0.length : Int) (wrap64 (x16_2 + 1))) else (none))) = some r := by rw [if_pos rfl] at H; exact H
           clear H
           have H := H1
           clear H1
           replace H := Option.bind_eq_some_iff.mp H
           obtain ⟨t148, A110, H⟩ := H
           replace H : (if x3_2.length + t148.length < 17592186044416 then (conf_All.l0 k2 (x3_2 ++ t148) l0 (l0.length : Int) (wrap64 (x16_2 + 1))) else (none)) = some r := H
           have A11 := am_ A110
           clear A110
           by_cases c12 : x3_2.length + t148.length < 17592186044416
           ·rw [if_pos c12] at H
            have LMc12 := am_ c12
            clear c12
            obtain ⟨y151, hy151⟩ : ∃ y_ : List Int, y_ = (x3_2 ++ t148) := ⟨_, rfl⟩
            replace H : (conf_All.l0 k2 y151 l0 (l0.length : Int) (wrap64 (x16_2 + 1))) = some r := by first | (rw [hy151]; with_reducible exact H) | (have H2_ := (ob_ _ _).symm.trans H; rw [hy151]; with_reducible exact H2_) | (have H2_ := (ob_ _ _).symm.trans H; with_reducible exact H2_) | with_reducible exact H | (rw [hy151]; exact H) | exact H
            have Ny151 := am_ hy151
            clear hy151
            have H' := am_ H
            clear H
            have p145 : 0 ≤ (x16_2 : Int) := od_ (by first | (with_reducible assumption) | assumption)
            have q145 : x16_2 < (l0.length : Int) := od_ (by first | (with_reducible assumption) | assumption)
            obtain ⟨ad145, A145_2, c145_2, e145, hx145_0, hx145_1, hx145_2, hx145_3, hx145_4, hl145_2, hi145_2⟩ := at_T54 HR0.out x16_2 p145 q145
            cases e145
            replace hx145_0 := (HB.out.cell (cl_ w _ hx145_0)).trans hx145_0
            replace hx145_1 := (HB.out.cell (cl_ w _ hx145_1)).trans hx145_1
            replace hx145_2 := (HB.out.cell (cl_ w _ hx145_2)).trans hx145_2
            replace hx145_3 := (HB.out.cell (cl_ w _ hx145_3)).trans hx145_3
            replace hx145_4 := (HB.out.cell (cl_ w _ hx145_4)).trans hx145_4
            have HR145_2 := am_ hi145_2
            have HC145_2 := am_ hl145_2
            clear hi145_2 hl145_2
            replace p145 := eq_true p145
            replace q145 := eq_true q145
            go_wp2_with (first | ((with_reducible refine gate_dst (N := 5) rfl ?_); (try (refine gate_guard (by rfl) ?_; dsimp only)); refine box_event ?hg (N := 5) ?hd (cs := #[.int .i64 0, .int .u64 0, .slice none 0 0, .bool false, .int .i64 0]) (t := 54) ?hr ?_; (case hd => rfl); (case hg => rfl); (case hr => first | (go_simp; done) | (go_simp; rfl)); intro gb146 hg w13 hbox hb; have n0_ := am_ (Kd.R_below (by (with_reducible repeat (first | apply Kd.R_alloc | apply Kd.R_drewN | apply Kd.R_drew)); exact HO_3.out) hb); have n1_ := am_ (bt_ (by repeat (first | (with_reducible first | exact HB.out | apply ba_ | apply bn_ | apply bd_) | exact HB.out)) hb); have n2_ := am_ (hbox); have n3_ := am_ ((by rw [hg]; exact (bs_ (by repeat (first | (with_reducible first | exact HB.out | apply ba_ | apply bn_ | apply bd_) | exact HB.out))) : w.heap.size ≤ gb146)); have n4_ := am_ ((by rw [hg]; exact (bs_ (by repeat (first | (with_reducible first | exact HB.out | apply ba_ | apply bn_ | apply bd_) | exact HB.out))) : w.heap.size ≤ gb146)); clear HO_3; clear HB; have HO_3 := n0_; have HB := n1_; have BK146 := n2_; have GW146 := n3_; have GE146 := n4_; clear n0_ n1_ n2_ n3_ n4_; clear hb hbox hg; have hcz14_0 : w13.cell? ⟨gb146, 0, none⟩ = some (.int .i64 0) := (bc_ BK146.out 0).trans rfl; have hcz14_1 : w13.cell? ⟨gb146, 1, none⟩ = some (.int .u64 0) := (bc_ BK146.out 1).trans rfl; have hcz14_2 : w13.cell? ⟨gb146, 2, none⟩ = some (.slice none 0 0) := (bc_ BK146.out 2).trans rfl; have hcz14_3 : w13.cell? ⟨gb146, 3, none⟩ = some (.bool false) := (bc_ BK146.out 3).trans rfl; have hcz14_4 : w13.cell? ⟨gb146, 4, none⟩ = some (.int .i64 0) := (bc_ BK146.out 4).trans rfl; have hfz14_0 := bf_ BK146.out 0; have hfz14_1 := bf_ BK146.out 1; have hfz14_2 := bf_ BK146.out 2; have hfz14_3 := bf_ BK146.out 3; have hfz14_4 := bf_ BK146.out 4) | (go_at_call 31; (with_reducible refine (conf_Right.calls k2 ((rd_T54 l0 x16_2).f0) ((rd_T54 l0 x16_2).f1) _ _ ((rd_T54 l0 x16_2).f2) ((rd_T54 l0 x16_2).f3) ((rd_T54 l0 x16_2).f4) true _ ?side1 ?side2 A9.out).mono ?_); (case side1 => exact Kd.C_below HR145_2.out (by repeat (first | (with_reducible first | exact HB.out | apply ba_ | apply bn_ | apply bd_ | refine be_ ?_ GE146.out) | exact HB.out))); (case side2 => exact HC145_2.out); rintro e w15 ⟨rfl, hb⟩; have n0_ := am_ (Kd.R_below (by (with_reducible repeat (first | apply Kd.R_alloc | apply Kd.R_drewN | apply Kd.R_drew)); exact (Kd.R_mono (Kd.R_far (p := ⟨gb146, 4, none⟩) (Kd.R_far (p := ⟨gb146, 3, none⟩) (Kd.R_far (p := ⟨gb146, 2, none⟩) (Kd.R_far (p := ⟨gb146, 1, none⟩) (Kd.R_far (p := ⟨gb146, 0, none⟩) (Kd.R_types HO_3.out BK146.out (by decide)) (fun _ hk => hk.2) (.int .i64 ((rd_T54 l0 x16_2).f0))) (fun _ hk => hk.2) (.int .u64 ((rd_T54 l0 x16_2).f1))) (fun _ hk => hk.2) (.slice A145_2 ((rd_T54 l0 x16_2).f2).length c145_2)) (fun _ hk => hk.2) (.bool ((rd_T54 l0 x16_2).f3))) (fun _ hk => hk.2) (.int .i64 ((rd_T54 l0 x16_2).f4))) (fun _ h_ => h_.1))) hb); have n1_ := am_ (blk_below (g := gb146) (o := .cells #[.int .i64 ((rd_T54 l0 x16_2).f0), .int .u64 ((rd_T54 l0 x16_2).f1), .slice A145_2 ((rd_T54 l0 x16_2).f2).length c145_2, .bool ((rd_T54 l0 x16_2).f3), .int .i64 ((rd_T54 l0 x16_2).f4)] 54 (0, 0)) (by (with_reducible repeat (first | refine bw_ ?_ _ | refine bx_ ?_ | refine bl_ ?_ _)); refine blk_put (cs := #[.int .i64 ((rd_T54 l0 x16_2).f0), .int .u64 ((rd_T54 l0 x16_2).f1), .slice A145_2 ((rd_T54 l0 x16_2).f2).length c145_2, .bool ((rd_T54 l0 x16_2).f3), .int .i64 0]) ?_ 4 _ rfl; (with_reducible repeat (first | refine bw_ ?_ _ | refine bx_ ?_ | refine bl_ ?_ _)); refine blk_put (cs := #[.int .i64 ((rd_T54 l0 x16_2).f0), .int .u64 ((rd_T54 l0 x16_2).f1), .slice A145_2 ((rd_T54 l0 x16_2).f2).length c145_2, .bool false, .int .i64 0]) ?_ 3 _ rfl; (with_reducible repeat (first | refine bw_ ?_ _ | refine bx_ ?_ | refine bl_ ?_ _)); refine blk_put (cs := #[.int .i64 ((rd_T54 l0 x16_2).f0), .int .u64 ((rd_T54 l0 x16_2).f1), .slice none 0 0, .bool false, .int .i64 0]) ?_ 2 _ rfl; (with_reducible repeat (first | refine bw_ ?_ _ | refine bx_ ?_ | refine bl_ ?_ _)); refine blk_put (cs := #[.int .i64 ((rd_T54 l0 x16_2).f0), .int .u64 0, .slice none 0 0, .bool false, .int .i64 0]) ?_ 1 _ rfl; (with_reducible repeat (first | refine bw_ ?_ _ | refine bx_ ?_ | refine bl_ ?_ _)); refine blk_put (cs := #[.int .i64 0, .int .u64 0, .slice none 0 0, .bool false, .int .i64 0]) ?_ 0 _ rfl; (with_reducible repeat (first | refine bw_ ?_ _ | refine bx_ ?_ | refine bl_ ?_ _)); exact BK146.out) hb); have n2_ := am_ (bt_ (by repeat (first | (with_reducible first | exact HB.out | apply ba_ | apply bn_ | apply bd_ | refine be_ ?_ GE146.out) | exact HB.out)) hb); clear HO_3; clear BK146; clear HB; have HO_3 := n0_; have BK146 := n1_; have HB := n2_; clear n0_ n1_ n2_; (try clear hb); (try clear hb2); (try clear hk); (try clear hi); have hcz16_0 : w15.cell? ⟨gb146, 0, none⟩ = some (.int .i64 ((rd_T54 l0 x16_2).f0)) := (bc_ BK146.out 0).trans rfl; have hcz16_1 : w15.cell? ⟨gb146, 1, none⟩ = some (.int .u64 ((rd_T54 l0 x16_2).f1)) := (bc_ BK146.out 1).trans rfl; have hcz16_2 : w15.cell? ⟨gb146, 2, none⟩ = some (.slice A145_2 ((rd_T54 l0 x16_2).f2).length c145_2) := (bc_ BK146.out 2).trans rfl; have hcz16_3 : w15.cell? ⟨gb146, 3, none⟩ = some (.bool ((rd_T54 l0 x16_2).f3)) := (bc_ BK146.out 3).trans rfl; have hcz16_4 : w15.cell? ⟨gb146, 4, none⟩ = some (.int .i64 ((rd_T54 l0 x16_2).f4)) := (bc_ BK146.out 4).trans rfl; have hfz16_0 := bf_ BK146.out 0; have hfz16_1 := bf_ BK146.out 1; have hfz16_2 := bf_ BK146.out 2; have hfz16_3 := bf_ BK146.out 3; have hfz16_4 := bf_ BK146.out 4) | ((with_reducible refine gate_callee (f := 67) rfl ?_); refine goesL_ (some 32) rfl rfl Tryd.func67 (by kernel_rfl) rfl #[.agg #[.int .i64 ((rd_T54 l0 x16_2).f0), .int .u64 ((rd_T54 l0 x16_2).f1), .slice A145_2 ((rd_T54 l0 x16_2).f2).length c145_2, .bool ((rd_T54 l0 x16_2).f3), .int .i64 ((rd_T54 l0 x16_2).f4)]] rfl (by (try simp only [List.map_toArray, List.map_cons, List.map_nil]); first | done | rfl | (simp only [List.length_drop, lt_]; rfl)) ?_; (with_reducible refine (conf_everybody.calls ((rd_T54 l0 x16_2).f0) ((rd_T54 l0 x16_2).f1) _ _ ((rd_T54 l0 x16_2).f2) ((rd_T54 l0 x16_2).f3) ((rd_T54 l0 x16_2).f4) t148 _ ?side1 ?side2 A11.out).mono ?_); (case side1 => repeat (first | exact (Kd.C_below HR145_2.out HB.out) | (with_reducible refine Kd.C_alloc ?_ _) | (with_reducible refine Kd.C_drewN ?_ _) | (with_reducible refine Kd.C_drew ?_))); (case side2 => exact HC145_2.out); rintro e w17 ⟨v149, rfl, ho0, hb⟩; refine ⟨_, rfl, ?_⟩; have n0_ := am_ (Kd.R_elder' (by (with_reducible repeat (first | apply Kd.R_alloc | apply Kd.R_drewN | apply Kd.R_drew)); exact HO_3.out) (Kd.R_base ho0) hb); have n1_ := am_ (Kd.R_lower (Kd.R_new' ho0 (Kd.R_lt (by (with_reducible repeat (first | apply Kd.R_alloc | apply Kd.R_drewN | apply Kd.R_drew)); exact HO_3.out))) (bs_ (by repeat (first | (with_reducible first | exact HB.out | apply ba_ | apply bn_ | apply bd_ | refine be_ ?_ GE146.out) | exact HB.out)))); have n2_ := am_ (blk_below (g := gb146) (o := .cells #[.int .i64 ((rd_T54 l0 x16_2).f0), .int .u64 ((rd_T54 l0 x16_2).f1), .slice A145_2 ((rd_T54 l0 x16_2).f2).length c145_2, .bool ((rd_T54 l0 x16_2).f3), .int .i64 ((rd_T54 l0 x16_2).f4)] 54 (0, 0)) (by (with_reducible repeat (first | refine bw_ ?_ _ | refine bx_ ?_ | refine bl_ ?_ _)); exact BK146.out) hb); have n3_ := am_ (bt_ (by repeat (first | (with_reducible first | exact HB.out | apply ba_ | apply bn_ | apply bd_ | refine be_ ?_ GE146.out) | exact HB.out)) hb); clear HO_3; clear BK146; clear HB; have HO_3 := n0_; have HO150 := n1_; have BK146 := n2_; have HB := n3_; clear n0_ n1_ n2_ n3_; (try clear hb); (try clear hb2); (try clear hk); (try clear hi); (try clear ho0); obtain ⟨Ao19, co19, eo19⟩ := Kd.R_slice HO150.out; subst eo19) | ((with_reducible refine gate_builtin (b := .append) (xs := #[.tmp 30, .tmp 32]) rfl ?_); (try (refine gate_guard (by rfl) ?_; dsimp only)); at_builtin; refine Kd.R_append_rows (Kd.int .i64) (w0 := w) w.heap.size rfl (.tmp 30) (.tmp 32) 52 3 (.int .i64 0) 8 rfl Tryd.underlying52 info3 rfl (by decide) (by omega) u3 x3_2 t148 _ _ _ (fun k_ => some k_ ≠ (.slice Ao19 t148.length co19 : Value).ownBlock) (fun _ => False) rfl rfl ?aO ?aR (fun _ _ h => h) (fun _ h => h.elim) ?aF ?aB ?aS ?aL ?_; (case aR => repeat (first | exact (Kd.R_reads' HO150.out).2.2 | (with_reducible refine Kd.C_alloc ?_ _) | (with_reducible refine Kd.C_drewN ?_ _) | (with_reducible refine Kd.C_drew ?_))); (case aB => exact (by repeat (first | (with_reducible first | exact HB.out | apply ba_ | apply bn_ | apply bd_ | refine be_ ?_ GE146.out) | exact HB.out))); (case aF => exact (fun k_ hk => Kd.fresh' (Kd.R_lt (by (with_reducible repeat (first | apply Kd.R_alloc | apply Kd.R_drewN | apply Kd.R_drew)); exact HO150.out)) k_ hk)); (case aO => exact (by (with_reducible repeat (first | apply Kd.R_alloc | apply Kd.R_drewN | apply Kd.R_drew)); exact Kd.R_mono HO_3.out (fun _ hk => hk.2))); (case aS => exact (bs_ (by repeat (first | (with_reducible first | exact HB.out | apply ba_ | apply bn_ | apply bd_ | refine be_ ?_ GE146.out) | exact HB.out)))); (case aL => have := LMc12.out; omega); intro v152 w18 ho hb hg hat; rw [← Ny151.out] at ho; have n0_ := am_ (blk_grown (g := gb146) (o := .cells #[.int .i64 ((rd_T54 l0 x16_2).f0), .int .u64 ((rd_T54 l0 x16_2).f1), .slice A145_2 ((rd_T54 l0 x16_2).f2).length c145_2, .bool ((rd_T54 l0 x16_2).f3), .int .i64 ((rd_T54 l0 x16_2).f4)] 54 (0, 0)) (by (with_reducible repeat (first | refine bw_ ?_ _ | refine bx_ ?_ | refine bl_ ?_ _)); exact BK146.out) hg (Kd.R_ne HO_3.out BK146.out (by decide))); have n1_ := am_ (Kd.R_after (ok := (fun _ => True)) (by (with_reducible repeat (first | apply Kd.R_alloc | apply Kd.R_drewN | apply Kd.R_drew)); exact HO150.out) hg hat); have n2_ := am_ (hb); have n3_ := am_ (ho); clear BK146; clear HO150; clear HB; clear HO_3; have BK146 := n0_; have HO150 := n1_; have HB := n2_; have HO153 := n3_; clear n0_ n1_ n2_ n3_; clear ho hb hg hat))
            go_roundg k2
            case measure => have := HJ1.out; have := HK2.out; omega
            case rel => exact ⟨(y151), (wrap64 (x16_2 + 1)), (by first | rfl | (simp; done) | (simp [*]; done)), H', ⟨by have := HJ1.out; have := HK2.out; omega⟩, ⟨by (with_reducible repeat (first | apply Kd.R_alloc | apply Kd.R_drewN | apply Kd.R_drew)); exact Kd.R_mono HO153.out (fun _ hk => trivial)⟩, ⟨by repeat (first | (with_reducible first | exact HB.out | apply ba_ | apply bn_ | apply bd_ | refine be_ ?_ GE146.out) | exact HB.out)⟩⟩
           ·rw [if_neg c12] at H
            exact absurd H (by simp)
          ·replace c10 := Bool.eq_false_iff.mpr c10
           subst c10
           have H1 : (some false) = some r := by rw [if_neg (show ¬ (false = true) by decide)] at H; exact H
           clear H
           have H := H1
           clear H1
           obtain rfl := Option.some.inj H
           have p145 : 0 ≤ (x16_2 : Int) := od_ (by first | (with_reducible assumption) | assumption)
           have q145 : x16_2 < (l0.length : Int) := od_ (by first | (with_reducible assumption) | assumption)
           obtain ⟨ad145, A145_2, c145_2, e145, hx145_0, hx145_1, hx145_2, hx145_3, hx145_4, hl145_2, hi145_2⟩ := at_T54 HR0.out x16_2 p145 q145
           cases e145
           replace hx145_0 := (HB.out.cell (cl_ w _ hx145_0)).trans hx145_0
           replace hx145_1 := (HB.out.cell (cl_ w _ hx145_1)).trans hx145_1
           replace hx145_2 := (HB.out.cell (cl_ w _ hx145_2)).trans hx145_2
           replace hx145_3 := (HB.out.cell (cl_ w _ hx145_3)).trans hx145_3
           replace hx145_4 := (HB.out.cell (cl_ w _ hx145_4)).trans hx145_4
           have HR145_2 := am_ hi145_2
           have HC145_2 := am_ hl145_2
           clear hi145_2 hl145_2
           replace p145 := eq_true p145
           replace q145 := eq_true q145
           go_wp2_with (first | ((with_reducible refine gate_dst (N := 5) rfl ?_); (try (refine gate_guard (by rfl) ?_; dsimp only)); refine box_event ?hg (N := 5) ?hd (cs := #[.int .i64 0, .int .u64 0, .slice none 0 0, .bool false, .int .i64 0]) (t := 54) ?hr ?_; (case hd => rfl); (case hg => rfl); (case hr => first | (go_simp; done) | (go_simp; rfl)); intro gb146 hg w20 hbox hb; have n0_ := am_ (Kd.R_below (by (with_reducible repeat (first | apply Kd.R_alloc | apply Kd.R_drewN | apply Kd.R_drew)); exact HO_3.out) hb); have n1_ := am_ (bt_ (by repeat (first | (with_reducible first | exact HB.out | apply ba_ | apply bn_ | apply bd_) | exact HB.out)) hb); have n2_ := am_ (hbox); have n3_ := am_ ((by rw [hg]; exact (bs_ (by repeat (first | (with_reducible first | exact HB.out | apply ba_ | apply bn_ | apply bd_) | exact HB.out))) : w.heap.size ≤ gb146)); have n4_ := am_ ((by rw [hg]; exact (bs_ (by repeat (first | (with_reducible first | exact HB.out | apply ba_ | apply bn_ | apply bd_) | exact HB.out))) : w.heap.size ≤ gb146)); clear HO_3; clear HB; have HO_3 := n0_; have HB := n1_; have BK146 := n2_; have GW146 := n3_; have GE146 := n4_; clear n0_ n1_ n2_ n3_ n4_; clear hb hbox hg; have hcz21_0 : w20.cell? ⟨gb146, 0, none⟩ = some (.int .i64 0) := (bc_ BK146.out 0).trans rfl; have hcz21_1 : w20.cell? ⟨gb146, 1, none⟩ = some (.int .u64 0) := (bc_ BK146.out 1).trans rfl; have hcz21_2 : w20.cell? ⟨gb146, 2, none⟩ = some (.slice none 0 0) := (bc_ BK146.out 2).trans rfl; have hcz21_3 : w20.cell? ⟨gb146, 3, none⟩ = some (.bool false) := (bc_ BK146.out 3).trans rfl; have hcz21_4 : w20.cell? ⟨gb146, 4, none⟩ = some (.int .i64 0) := (bc_ BK146.out 4).trans rfl; have hfz21_0 := bf_ BK146.out 0; have hfz21_1 := bf_ BK146.out 1; have hfz21_2 := bf_ BK146.out 2; have hfz21_3 := bf_ BK146.out 3; have hfz21_4 := bf_ BK146.out 4) | (go_at_call 31; (with_reducible refine (conf_Right.calls k2 ((rd_T54 l0 x16_2).f0) ((rd_T54 l0 x16_2).f1) _ _ ((rd_T54 l0 x16_2).f2) ((rd_T54 l0 x16_2).f3) ((rd_T54 l0 x16_2).f4) false _ ?side1 ?side2 A9.out).mono ?_); (case side1 => exact Kd.C_below HR145_2.out (by repeat (first | (with_reducible first | exact HB.out | apply ba_ | apply bn_ | apply bd_ | refine be_ ?_ GE146.out) | exact HB.out))); (case side2 => exact HC145_2.out); rintro e w22 ⟨rfl, hb⟩; have n0_ := am_ (Kd.R_below (by (with_reducible repeat (first | apply Kd.R_alloc | apply Kd.R_drewN | apply Kd.R_drew)); exact (Kd.R_mono (Kd.R_far (p := ⟨gb146, 4, none⟩) (Kd.R_far (p := ⟨gb146, 3, none⟩) (Kd.R_far (p := ⟨gb146, 2, none⟩) (Kd.R_far (p := ⟨gb146, 1, none⟩) (Kd.R_far (p := ⟨gb146, 0, none⟩) (Kd.R_types HO_3.out BK146.out (by decide)) (fun _ hk => hk.2) (.int .i64 ((rd_T54 l0 x16_2).f0))) (fun _ hk => hk.2) (.int .u64 ((rd_T54 l0 x16_2).f1))) (fun _ hk => hk.2) (.slice A145_2 ((rd_T54 l0 x16_2).f2).length c145_2)) (fun _ hk => hk.2) (.bool ((rd_T54 l0 x16_2).f3))) (fun _ hk => hk.2) (.int .i64 ((rd_T54 l0 x16_2).f4))) (fun _ h_ => h_.1))) hb); have n1_ := am_ (blk_below (g := gb146) (o := .cells #[.int .i64 ((rd_T54 l0 x16_2).f0), .int .u64 ((rd_T54 l0 x16_2).f1), .slice A145_2 ((rd_T54 l0 x16_2).f2).length c145_2, .bool ((rd_T54 l0 x16_2).f3), .int .i64 ((rd_T54 l0 x16_2).f4)] 54 (0, 0)) (by (with_reducible repeat (first | refine bw_ ?_ _ | refine bx_ ?_ | refine bl_ ?_ _)); refine blk_put (cs := #[.int .i64 ((rd_T54 l0 x16_2).f0), .int .u64 ((rd_T54 l0 x16_2).f1), .slice A145_2 ((rd_T54 l0 x16_2).f2).length c145_2, .bool ((rd_T54 l0 x16_2).f3), .int .i64 0]) ?_ 4 _ rfl; (with_reducible repeat (first | refine bw_ ?_ _ | refine bx_ ?_ | refine bl_ ?_ _)); refine blk_put (cs := #[.int .i64 ((rd_T54 l0 x16_2).f0), .int .u64 ((rd_T54 l0 x16_2).f1), .slice A145_2 ((rd_T54 l0 x16_2).f2).length c145_2, .bool false, .int .i64 0]) ?_ 3 _ rfl; (with_reducible repeat (first | refine bw_ ?_ _ | refine bx_ ?_ | refine bl_ ?_ _)); refine blk_put (cs := #[.int .i64 ((rd_T54 l0 x16_2).f0), .int .u64 ((rd_T54 l0 x16_2).f1), .slice none 0 0, .bool false, .int .i64 0]) ?_ 2 _ rfl; (with_reducible repeat (first | refine bw_ ?_ _ | refine bx_ ?_ | refine bl_ ?_ _)); refine blk_put (cs := #[.int .i64 ((rd_T54 l0 x16_2).f0), .int .u64 0, .slice none 0 0, .bool false, .int .i64 0]) ?_ 1 _ rfl; (with_reducible repeat (first | refine bw_ ?_ _ | refine bx_ ?_ | refine bl_ ?_ _)); refine blk_put (cs := #[.int .i64 0, .int .u64 0, .slice none 0 0, .bool false, .int .i64 0]) ?_ 0 _ rfl; (with_reducible repeat (first | refine bw_ ?_ _ | refine bx_ ?_ | refine bl_ ?_ _)); exact BK146.out) hb); have n2_ := am_ (bt_ (by repeat (first | (with_reducible first | exact HB.out | apply ba_ | apply bn_ | apply bd_ | refine be_ ?_ GE146.out) | exact HB.out)) hb); clear HO_3; clear BK146; clear HB; have HO_3 := n0_; have BK146 := n1_; have HB := n2_; clear n0_ n1_ n2_; (try clear hb); (try clear hb2); (try clear hk); (try clear hi)))
           go_ret
           exact ⟨by first | rfl | (simp [errW_none, errW_some] <;> rfl) | (simp [*, errW_none, errW_some] <;> rfl), by repeat (first | (with_reducible first | exact HB.out | apply ba_ | apply bn_ | apply bd_ | refine be_ ?_ GE146.out) | exact HB.out)⟩
         ·rw [if_neg c8] at H
          have c8b0 : (((rd_T54 l0 x16_2).f0) == x16_2) = false := beq_eq_false_iff_ne.mpr c8
          have c8b1 : (((rd_T54 l0 x16_2).f0) != x16_2) = true := bne_iff_ne.mpr c8
          obtain rfl := Option.some.inj H
          have p145 : 0 ≤ (x16_2 : Int) := od_ (by first | (with_reducible assumption) | assumption)
          have q145 : x16_2 < (l0.length : Int) := od_ (by first | (with_reducible assumption) | assumption)
          obtain ⟨ad145, A145_2, c145_2, e145, hx145_0, hx145_1, hx145_2, hx145_3, hx145_4, hl145_2, hi145_2⟩ := at_T54 HR0.out x16_2 p145 q145
          cases e145
          replace hx145_0 := (HB.out.cell (cl_ w _ hx145_0)).trans hx145_0
          replace hx145_1 := (HB.out.cell (cl_ w _ hx145_1)).trans hx145_1
          replace hx145_2 := (HB.out.cell (cl_ w _ hx145_2)).trans hx145_2
          replace hx145_3 := (HB.out.cell (cl_ w _ hx145_3)).trans hx145_3
          replace hx145_4 := (HB.out.cell (cl_ w _ hx145_4)).trans hx145_4
          have HR145_2 := am_ hi145_2
          have HC145_2 := am_ hl145_2
          clear hi145_2 hl145_2
          replace p145 := eq_true p145
          replace q145 := eq_true q145
          go_wp2_with (first | ((with_reducible refine gate_dst (N := 5) rfl ?_); (try (refine gate_guard (by rfl) ?_; dsimp only)); refine box_event ?hg (N := 5) ?hd (cs := #[.int .i64 0, .int .u64 0, .slice none 0 0, .bool false, .int .i64 0]) (t := 54) ?hr ?_; (case hd => rfl); (case hg => rfl); (case hr => first | (go_simp; done) | (go_simp; rfl)); intro gb146 hg w23 hbox hb; have n0_ := am_ (Kd.R_below (by (with_reducible repeat (first | apply Kd.R_alloc | apply Kd.R_drewN | apply Kd.R_drew)); exact HO_3.out) hb); have n1_ := am_ (bt_ (by repeat (first | (with_reducible first | exact HB.out | apply ba_ | apply bn_ | apply bd_) | exact HB.out)) hb); have n2_ := am_ (hbox); have n3_ := am_ ((by rw [hg]; exact (bs_ (by repeat (first | (with_reducible first | exact HB.out | apply ba_ | apply bn_ | apply bd_) | exact HB.out))) : w.heap.size ≤ gb146)); have n4_ := am_ ((by rw [hg]; exact (bs_ (by repeat (first | (with_reducible first | exact HB.out | apply ba_ | apply bn_ | apply bd_) | exact HB.out))) : w.heap.size ≤ gb146)); clear HO_3; clear HB; have HO_3 := n0_; have HB := n1_; have BK146 := n2_; have GW146 := n3_; have GE146 := n4_; clear n0_ n1_ n2_ n3_ n4_; clear hb hbox hg; have hcz24_0 : w23.cell? ⟨gb146, 0, none⟩ = some (.int .i64 0) := (bc_ BK146.out 0).trans rfl; have hcz24_1 : w23.cell? ⟨gb146, 1, none⟩ = some (.int .u64 0) := (bc_ BK146.out 1).trans rfl; have hcz24_2 : w23.cell? ⟨gb146, 2, none⟩ = some (.slice none 0 0) := (bc_ BK146.out 2).trans rfl; have hcz24_3 : w23.cell? ⟨gb146, 3, none⟩ = some (.bool false) := (bc_ BK146.out 3).trans rfl; have hcz24_4 : w23.cell? ⟨gb146, 4, none⟩ = some (.int .i64 0) := (bc_ BK146.out 4).trans rfl; have hfz24_0 := bf_ BK146.out 0; have hfz24_1 := bf_ BK146.out 1; have hfz24_2 := bf_ BK146.out 2; have hfz24_3 := bf_ BK146.out 3; have hfz24_4 := bf_ BK146.out 4))
          go_ret
          exact ⟨by first | rfl | (simp [errW_none, errW_some] <;> rfl) | (simp [*, errW_none, errW_some] <;> rfl), by repeat (first | (with_reducible first | exact HB.out | apply ba_ | apply bn_ | apply bd_ | refine be_ ?_ GE146.out) | exact HB.out)⟩
        ·rw [if_neg c7] at H
         exact absurd H (by simp)
       ·rw [if_neg c6] at H
        exact absurd H (by simp)
      ·rw [if_neg c5] at H
       have c5b0 : decide (x16_2 < (l0.length : Int)) = false := decide_eq_false c5
       clear c5
       replace H := Option.bind_eq_some_iff.mp H
       obtain ⟨t144, A250, H⟩ := H
       replace H : (some t144) = some r := H
       have A25 := am_ A250
       clear A250
       obtain rfl := Option.some.inj H
       obtain ⟨Ao26, co26, eo26⟩ := Kd.R_slice HO_3.out
       subst eo26
       go_wp2_with (first | ((with_reducible refine gate_callee (f := 66) rfl ?_); refine goesL_ (some 36) rfl rfl Tryd.func66 (by kernel_rfl) rfl #[.slice Ao26 x3_2.length co26] rfl (by (try simp only [List.map_toArray, List.map_cons, List.map_nil]); first | done | rfl | (simp only [List.length_drop, lt_]; rfl)) ?_; (with_reducible refine (conf_unlike.calls k2 _ _ x3_2 t144 _ ?side1 ?side2 A25.out).mono ?_); (case side1 => repeat (first | exact (Kd.R_reads' HO_3.out).2.2 | (with_reducible refine Kd.C_alloc ?_ _) | (with_reducible refine Kd.C_drewN ?_ _) | (with_reducible refine Kd.C_drew ?_))); (case side2 => exact (Kd.R_reads' HO_3.out).2.1); rintro e w' ⟨rfl, ⟨nd, rfl⟩⟩; refine ⟨_, rfl, ?_⟩))
       go_ret
       exact ⟨by first | rfl | (simp [errW_none, errW_some] <;> rfl) | (simp [*, errW_none, errW_some] <;> rfl), by repeat (first | (with_reducible first | exact HB.out | apply ba_ | apply bn_ | apply bd_) | exact HB.out)⟩
def conf_canPromote.f (l0 : List (S54)) (a1_0 : Int) (a1_1 : Int) (l1_2 : List Int) (a1_3 : Bool) (a1_4 : Int) (a2 : Int) : Option (Int) := if a1_4 = a2 then (if (l1_2.length : Int) ≥ 5 then (some 9) else (some 0)) else (some 7)
set_option maxHeartbeats 8000000 in
set_option maxRecDepth 100000 in
theorem conf_canPromote.calls (A0 : Option Addr) (c0 : Nat) (l0 : List (S54)) (a1_0 : Int) (a1_1 : Int) (A1_2 : Option Addr) (c1_2 : Nat) (l1_2 : List Int) (a1_3 : Bool) (a1_4 : Int) (a2 : Int) (r : Int) (w : World) (hr0 : Kd.C k54 w A0 l0.length l0) (hc0 : l0.length ≤ c0) (hr1_2 : Kd.C (Kd.int .i64) w A1_2 l1_2.length l1_2) (hc1_2 : l1_2.length ≤ c1_2) (h : conf_canPromote.f l0 a1_0 a1_1 l1_2 a1_3 a1_4 a2 = some r) :
  Calls Tryd.prog 98 #[.slice A0 l0.length c0, .agg #[.int .i64 a1_0, .int .u64 a1_1, .slice A1_2 l1_2.length c1_2, .bool a1_3, .int .i64 a1_4], .int .i64 a2] w fun e w' => e = .returned (.int .i64 r) ∧ Below w.heap.size w w' := by
 have hu54 := Tryd.underlying54
 have HR0 := am_ hr0
 have HC0 := am_ hc0
 clear hr0 hc0
 have HR1_2 := am_ hr1_2
 have HC1_2 := am_ hc1_2
 clear hr1_2 hc1_2
 have HB := am_ (Below.refl w.heap.size w)
 have H : (if a1_4 = a2 then (if (l1_2.length : Int) ≥ 5 then (some 9) else (some 0)) else (some 7)) = some r := h
 clear h
 by_cases c4 : a1_4 = a2
 ·rw [if_pos c4] at H
  have c4b0 : (a1_4 == a2) = true := beq_iff_eq.mpr c4
  have c4b1 : (a1_4 != a2) = false := bne_eq_false_iff_eq.mpr c4
  clear c4
  by_cases c5 : (l1_2.length : Int) ≥ 5
  ·rw [if_pos c5] at H
   have c5b0 : decide (5 ≤ (l1_2.length : Int)) = true := decide_eq_true c5
   have c5b1 : decide (5 ≤ l1_2.length) = true := decide_eq_true (by omega)
   clear c5
   obtain rfl := Option.some.inj H
   go_enter Tryd.func98, Tryd.ntmps98
   go_wp2_with (first | ((with_reducible refine gate_dst (N := 4) rfl ?_); refine box_event ?hg (N := 4) ?hd (cs := #[.int .i64 a1_0, .int .u64 a1_1, .slice A1_2 l1_2.length c1_2, .bool a1_3, .int .i64 a1_4]) (t := 54) ?hr ?_; (case hd => rfl); (case hg => rfl); (case hr => first | (go_simp; done) | (go_simp; rfl)); intro gb156 hg w6 hbox hb; have n0_ := am_ (bt_ (by repeat (first | (with_reducible first | exact HB.out | apply ba_ | apply bn_ | apply bd_) | exact HB.out)) hb); have n1_ := am_ (hbox); have n2_ := am_ ((by rw [hg]; exact (bs_ (by repeat (first | (with_reducible first | exact HB.out | apply ba_ | apply bn_ | apply bd_) | exact HB.out))) : w.heap.size ≤ gb156)); have n3_ := am_ ((by rw [hg]; exact (bs_ (by repeat (first | (with_reducible first | exact HB.out | apply ba_ | apply bn_ | apply bd_) | exact HB.out))) : w.heap.size ≤ gb156)); clear HB; have HB := n0_; have BK156 := n1_; have GW156 := n2_; have GE156 := n3_; clear n0_ n1_ n2_ n3_; clear hb hbox hg; have hcz7_0 : w6.cell? ⟨gb156, 0, none⟩ = some (.int .i64 a1_0) := (bc_ BK156.out 0).trans rfl; have hcz7_1 : w6.cell? ⟨gb156, 1, none⟩ = some (.int .u64 a1_1) := (bc_ BK156.out 1).trans rfl; have hcz7_2 : w6.cell? ⟨gb156, 2, none⟩ = some (.slice A1_2 l1_2.length c1_2) := (bc_ BK156.out 2).trans rfl; have hcz7_3 : w6.cell? ⟨gb156, 3, none⟩ = some (.bool a1_3) := (bc_ BK156.out 3).trans rfl; have hcz7_4 : w6.cell? ⟨gb156, 4, none⟩ = some (.int .i64 a1_4) := (bc_ BK156.out 4).trans rfl; have hfz7_0 := bf_ BK156.out 0; have hfz7_1 := bf_ BK156.out 1; have hfz7_2 := bf_ BK156.out 2; have hfz7_3 := bf_ BK156.out 3; have hfz7_4 := bf_ BK156.out 4))
   go_ret
   exact ⟨by first | rfl | (simp [errW_none, errW_some] <;> rfl) | (simp [*, errW_none, errW_some] <;> rfl), by repeat (first | (with_reducible first | exact HB.out | apply ba_ | apply bn_ | apply bd_ | refine be_ ?_ GE156.out) | exact HB.out)⟩
  ·rw [if_neg c5] at H
   have c5b0 : decide (5 ≤ (l1_2.length : Int)) = false := decide_eq_false c5
   have c5b1 : decide (5 ≤ l1_2.length) = false := decide_eq_false (by omega)
   clear c5
   obtain rfl := Option.some.inj H
   go_enter Tryd.func98, Tryd.ntmps98
   go_wp2_with (first | ((with_reducible refine gate_dst (N := 4) rfl ?_); refine box_event ?hg (N := 4) ?hd (cs := #[.int .i64 a1_0, .int .u64 a1_1, .slice A1_2 l1_2.length c1_2, .bool a1_3, .int .i64 a1_4]) (t := 54) ?hr ?_; (case hd => rfl); (case hg => rfl); (case hr => first | (go_simp; done) | (go_simp; rfl)); intro gb156 hg w8 hbox hb; have n0_ := am_ (bt_ (by repeat (first | (with_reducible first | exact HB.out | apply ba_ | apply bn_ | apply bd_) | exact HB.out)) hb); have n1_ := am_ (hbox); have n2_ := am_ ((by rw [hg]; exact (bs_ (by repeat (first | (with_reducible first | exact HB.out | apply ba_ | apply bn_ | apply bd_) | exact HB.out))) : w.heap.size ≤ gb156)); have n3_ := am_ ((by rw [hg]; exact (bs_ (by repeat (first | (with_reducible first | exact HB.out | apply ba_ | apply bn_ | apply bd_) | exact HB.out))) : w.heap.size ≤ gb156)); clear HB; have HB := n0_; have BK156 := n1_; have GW156 := n2_; have GE156 := n3_; clear n0_ n1_ n2_ n3_; clear hb hbox hg; have hcz9_0 : w8.cell? ⟨gb156, 0, none⟩ = some (.int .i64 a1_0) := (bc_ BK156.out 0).trans rfl; have hcz9_1 : w8.cell? ⟨gb156, 1, none⟩ = some (.int .u64 a1_1) := (bc_ BK156.out 1).trans rfl; have hcz9_2 : w8.cell? ⟨gb156, 2, none⟩ = some (.slice A1_2 l1_2.length c1_2) := (bc_ BK156.out 2).trans rfl; have hcz9_3 : w8.cell? ⟨gb156, 3, none⟩ = some (.bool a1_3) := (bc_ BK156.out 3).trans rfl; have hcz9_4 : w8.cell? ⟨gb156, 4, none⟩ = some (.int .i64 a1_4) := (bc_ BK156.out 4).trans rfl; have hfz9_0 := bf_ BK156.out 0; have hfz9_1 := bf_ BK156.out 1; have hfz9_2 := bf_ BK156.out 2; have hfz9_3 := bf_ BK156.out 3; have hfz9_4 := bf_ BK156.out 4))
   go_ret
   exact ⟨by first | rfl | (simp [errW_none, errW_some] <;> rfl) | (simp [*, errW_none, errW_some] <;> rfl), by repeat (first | (with_reducible first | exact HB.out | apply ba_ | apply bn_ | apply bd_ | refine be_ ?_ GE156.out) | exact HB.out)⟩
 ·rw [if_neg c4] at H
  have c4b0 : (a1_4 == a2) = false := beq_eq_false_iff_ne.mpr c4
  have c4b1 : (a1_4 != a2) = true := bne_iff_ne.mpr c4
  obtain rfl := Option.some.inj H
  go_enter Tryd.func98, Tryd.ntmps98
  go_wp2_with (first | ((with_reducible refine gate_dst (N := 4) rfl ?_); refine box_event ?hg (N := 4) ?hd (cs := #[.int .i64 a1_0, .int .u64 a1_1, .slice A1_2 l1_2.length c1_2, .bool a1_3, .int .i64 a1_4]) (t := 54) ?hr ?_; (case hd => rfl); (case hg => rfl); (case hr => first | (go_simp; done) | (go_simp; rfl)); intro gb156 hg w10 hbox hb; have n0_ := am_ (bt_ (by repeat (first | (with_reducible first | exact HB.out | apply ba_ | apply bn_ | apply bd_) | exact HB.out)) hb); have n1_ := am_ (hbox); have n2_ := am_ ((by rw [hg]; exact (bs_ (by repeat (first | (with_reducible first | exact HB.out | apply ba_ | apply bn_ | apply bd_) | exact HB.out))) : w.heap.size ≤ gb156)); have n3_ := am_ ((by rw [hg]; exact (bs_ (by repeat (first | (with_reducible first | exact HB.out | apply ba_ | apply bn_ | apply bd_) | exact HB.out))) : w.heap.size ≤ gb156)); clear HB; have HB := n0_; have BK156 := n1_; have GW156 := n2_; have GE156 := n3_; clear n0_ n1_ n2_ n3_; clear hb hbox hg; have hcz11_0 : w10.cell? ⟨gb156, 0, none⟩ = some (.int .i64 a1_0) := (bc_ BK156.out 0).trans rfl; have hcz11_1 : w10.cell? ⟨gb156, 1, none⟩ = some (.int .u64 a1_1) := (bc_ BK156.out 1).trans rfl; have hcz11_2 : w10.cell? ⟨gb156, 2, none⟩ = some (.slice A1_2 l1_2.length c1_2) := (bc_ BK156.out 2).trans rfl; have hcz11_3 : w10.cell? ⟨gb156, 3, none⟩ = some (.bool a1_3) := (bc_ BK156.out 3).trans rfl; have hcz11_4 : w10.cell? ⟨gb156, 4, none⟩ = some (.int .i64 a1_4) := (bc_ BK156.out 4).trans rfl; have hfz11_0 := bf_ BK156.out 0; have hfz11_1 := bf_ BK156.out 1; have hfz11_2 := bf_ BK156.out 2; have hfz11_3 := bf_ BK156.out 3; have hfz11_4 := bf_ BK156.out 4))
  go_ret
  exact ⟨by first | rfl | (simp [errW_none, errW_some] <;> rfl) | (simp [*, errW_none, errW_some] <;> rfl), by repeat (first | (with_reducible first | exact HB.out | apply ba_ | apply bn_ | apply bd_ | refine be_ ?_ GE156.out) | exact HB.out)⟩
def conf_last.f (a0_0 : Int) (a0_1 : Int) (l0_2 : List Int) (a0_3 : Bool) (a0_4 : Int) : Option (Int) := if 0 ≤ (wrap64 ((l0_2.length : Int) - 1)) then (if (wrap64 ((l0_2.length : Int) - 1)) < (l0_2.length : Int) then (some (rd l0_2 (wrap64 ((l0_2.length : Int) - 1)))) else (none)) else (none)
set_option maxHeartbeats 8000000 in
set_option maxRecDepth 100000 in
theorem conf_last.calls (a0_0 : Int) (a0_1 : Int) (A0_2 : Option Addr) (c0_2 : Nat) (l0_2 : List Int) (a0_3 : Bool) (a0_4 : Int) (r : Int) (w : World) (hr0_2 : Kd.C (Kd.int .i64) w A0_2 l0_2.length l0_2) (hc0_2 : l0_2.length ≤ c0_2) (h : conf_last.f a0_0 a0_1 l0_2 a0_3 a0_4 = some r) :
  Calls Tryd.prog 129 #[.agg #[.int .i64 a0_0, .int .u64 a0_1, .slice A0_2 l0_2.length c0_2, .bool a0_3, .int .i64 a0_4]] w fun e w' => e = .returned (.int .i64 r) ∧ Below w.heap.size w w' := by
 have hu54 := Tryd.underlying54
 have HR0_2 := am_ hr0_2
 have HC0_2 := am_ hc0_2
 clear hr0_2 hc0_2
 have HB := am_ (Below.refl w.heap.size w)
 have H : (if 0 ≤ (wrap64 ((l0_2.length : Int) - 1)) then (if (wrap64 ((l0_2.length : Int) - 1)) < (l0_2.length : Int) then (some (rd l0_2 (wrap64 ((l0_2.length : Int) - 1)))) else (none)) else (none)) = some r := h
 clear h
 obtain ⟨ji2, hji2⟩ : ∃ j_ : Int, (wrap64 ((l0_2.length : Int) - 1)) = j_ := ⟨_, rfl⟩
 replace H : (if 0 ≤ (ji2) then (if (ji2) < (l0_2.length : Int) then (some (rd l0_2 (ji2))) else (none)) else (none)) = some r := by first | (rw [hji2] at H; exact H) | (simp only [hji2] at H ⊢; exact H)
 have hji2w : (IntKind.i64.wrap ((l0_2.length : Int) - 1)) = ji2 := (i64_w _).trans hji2
 by_cases c3 : 0 ≤ (ji2)
 ·rw [if_pos c3] at H
  have c3b0 : decide (0 ≤ (ji2)) = true := decide_eq_true c3
  clear c3
  by_cases c4 : (ji2) < (l0_2.length : Int)
  ·rw [if_pos c4] at H
   have c4b0 : decide ((ji2) < (l0_2.length : Int)) = true := decide_eq_true c4
   clear c4
   obtain rfl := Option.some.inj H
   go_enter Tryd.func129, Tryd.ntmps129
   go_wp2_with (first | ((with_reducible refine gate_dst (N := 1) rfl ?_); refine box_event ?hg (N := 1) ?hd (cs := #[.int .i64 a0_0, .int .u64 a0_1, .slice A0_2 l0_2.length c0_2, .bool a0_3, .int .i64 a0_4]) (t := 54) ?hr ?_; (case hd => rfl); (case hg => rfl); (case hr => first | (go_simp; done) | (go_simp; rfl)); intro gb157 hg w5 hbox hb; have n0_ := am_ (bt_ (by repeat (first | (with_reducible first | exact HB.out | apply ba_ | apply bn_ | apply bd_) | exact HB.out)) hb); have n1_ := am_ (hbox); have n2_ := am_ ((by rw [hg]; exact (bs_ (by repeat (first | (with_reducible first | exact HB.out | apply ba_ | apply bn_ | apply bd_) | exact HB.out))) : w.heap.size ≤ gb157)); have n3_ := am_ ((by rw [hg]; exact (bs_ (by repeat (first | (with_reducible first | exact HB.out | apply ba_ | apply bn_ | apply bd_) | exact HB.out))) : w.heap.size ≤ gb157)); clear HB; have HB := n0_; have BK157 := n1_; have GW157 := n2_; have GE157 := n3_; clear n0_ n1_ n2_ n3_; clear hb hbox hg; have hcz6_0 : w5.cell? ⟨gb157, 0, none⟩ = some (.int .i64 a0_0) := (bc_ BK157.out 0).trans rfl; have hcz6_1 : w5.cell? ⟨gb157, 1, none⟩ = some (.int .u64 a0_1) := (bc_ BK157.out 1).trans rfl; have hcz6_2 : w5.cell? ⟨gb157, 2, none⟩ = some (.slice A0_2 l0_2.length c0_2) := (bc_ BK157.out 2).trans rfl; have hcz6_3 : w5.cell? ⟨gb157, 3, none⟩ = some (.bool a0_3) := (bc_ BK157.out 3).trans rfl; have hcz6_4 : w5.cell? ⟨gb157, 4, none⟩ = some (.int .i64 a0_4) := (bc_ BK157.out 4).trans rfl; have hfz6_0 := bf_ BK157.out 0; have hfz6_1 := bf_ BK157.out 1; have hfz6_2 := bf_ BK157.out 2; have hfz6_3 := bf_ BK157.out 3; have hfz6_4 := bf_ BK157.out 4; have p158 : 0 ≤ ((ji2) : Int) := od_ (by first | (with_reducible assumption) | assumption); have q158 : (ji2) < (l0_2.length : Int) := od_ (by first | (with_reducible assumption) | assumption); obtain ⟨ad158, e158, hx158_0⟩ := Kd.at_int HR0_2.out (ji2) p158 q158; cases e158; replace hx158_0 := (HB.out.cell (cl_ w _ hx158_0)).trans hx158_0; replace p158 := eq_true p158; replace q158 := eq_true q158))
   go_ret
   exact ⟨by first | rfl | (simp [errW_none, errW_some] <;> rfl) | (simp only [← hji2]; first | rfl | (simp [errW_none, errW_some] <;> rfl)) | (simp [*, errW_none, errW_some] <;> rfl), by repeat (first | (with_reducible first | exact HB.out | apply ba_ | apply bn_ | apply bd_ | refine be_ ?_ GE157.out) | exact HB.out)⟩
  ·rw [if_neg c4] at H
   exact absurd H (by simp)
 ·rw [if_neg c3] at H
  exact absurd H (by simp)
def conf_canSettle.f (l0 : List (S54)) (a1_0 : Int) (a1_1 : Int) (l1_2 : List Int) (a1_3 : Bool) (a1_4 : Int) (a2 : Int) : Option (Int) := if a1_3 = true then ((conf_last.f a1_0 a1_1 l1_2 a1_3 a1_4).bind fun t160 => (if t160 = a2 then (some 0) else (some 7))) else (some 7)
set_option maxHeartbeats 8000000 in
set_option maxRecDepth 100000 in
theorem conf_canSettle.calls (A0 : Option Addr) (c0 : Nat) (l0 : List (S54)) (a1_0 : Int) (a1_1 : Int) (A1_2 : Option Addr) (c1_2 : Nat) (l1_2 : List Int) (a1_3 : Bool) (a1_4 : Int) (a2 : Int) (r : Int) (w : World) (hr0 : Kd.C k54 w A0 l0.length l0) (hc0 : l0.length ≤ c0) (hr1_2 : Kd.C (Kd.int .i64) w A1_2 l1_2.length l1_2) (hc1_2 : l1_2.length ≤ c1_2) (h : conf_canSettle.f l0 a1_0 a1_1 l1_2 a1_3 a1_4 a2 = some r) :
  Calls Tryd.prog 100 #[.slice A0 l0.length c0, .agg #[.int .i64 a1_0, .int .u64 a1_1, .slice A1_2 l1_2.length c1_2, .bool a1_3, .int .i64 a1_4], .int .i64 a2] w fun e w' => e = .returned (.int .i64 r) ∧ Below w.heap.size w w' := by
 have hu54 := Tryd.underlying54
 have HR0 := am_ hr0
 have HC0 := am_ hc0
 clear hr0 hc0
 have HR1_2 := am_ hr1_2
 have HC1_2 := am_ hc1_2
 clear hr1_2 hc1_2
 have HB := am_ (Below.refl w.heap.size w)
 have H : (if a1_3 = true then ((conf_last.f a1_0 a1_1 l1_2 a1_3 a1_4).bind fun t160 => (if t160 = a2 then (some 0) else (some 7))) else (some 7)) = some r := h
 clear h
 by_cases c4 : a1_3 = true
 ·subst c4
  have H1 : ((conf_last.f a1_0 a1_1 l1_2 true a1_4).bind fun t160 => (if t160 = a2 then (some 0) else (some 7))) = some r := by rw [if_pos rfl] at H; exact H
  clear H
  have H := H1
  clear H1
  replace H := Option.bind_eq_some_iff.mp H
  obtain ⟨t160, A50, H⟩ := H
  replace H : (if t160 = a2 then (some 0) else (some 7)) = some r := H
  have A5 := am_ A50
  clear A50
  by_cases c6 : t160 = a2
  ·rw [if_pos c6] at H
   have c6b0 : (t160 == a2) = true := beq_iff_eq.mpr c6
   have c6b1 : (t160 != a2) = false := bne_eq_false_iff_eq.mpr c6
   clear c6
   obtain rfl := Option.some.inj H
   go_enter Tryd.func100, Tryd.ntmps100
   go_wp2_with (first | ((with_reducible refine gate_dst (N := 4) rfl ?_); refine box_event ?hg (N := 4) ?hd (cs := #[.int .i64 a1_0, .int .u64 a1_1, .slice A1_2 l1_2.length c1_2, .bool true, .int .i64 a1_4]) (t := 54) ?hr ?_; (case hd => rfl); (case hg => rfl); (case hr => first | (go_simp; done) | (go_simp; rfl)); intro gb159 hg w7 hbox hb; have n0_ := am_ (bt_ (by repeat (first | (with_reducible first | exact HB.out | apply ba_ | apply bn_ | apply bd_) | exact HB.out)) hb); have n1_ := am_ (hbox); have n2_ := am_ ((by rw [hg]; exact (bs_ (by repeat (first | (with_reducible first | exact HB.out | apply ba_ | apply bn_ | apply bd_) | exact HB.out))) : w.heap.size ≤ gb159)); have n3_ := am_ ((by rw [hg]; exact (bs_ (by repeat (first | (with_reducible first | exact HB.out | apply ba_ | apply bn_ | apply bd_) | exact HB.out))) : w.heap.size ≤ gb159)); clear HB; have HB := n0_; have BK159 := n1_; have GW159 := n2_; have GE159 := n3_; clear n0_ n1_ n2_ n3_; clear hb hbox hg; have hcz8_0 : w7.cell? ⟨gb159, 0, none⟩ = some (.int .i64 a1_0) := (bc_ BK159.out 0).trans rfl; have hcz8_1 : w7.cell? ⟨gb159, 1, none⟩ = some (.int .u64 a1_1) := (bc_ BK159.out 1).trans rfl; have hcz8_2 : w7.cell? ⟨gb159, 2, none⟩ = some (.slice A1_2 l1_2.length c1_2) := (bc_ BK159.out 2).trans rfl; have hcz8_3 : w7.cell? ⟨gb159, 3, none⟩ = some (.bool true) := (bc_ BK159.out 3).trans rfl; have hcz8_4 : w7.cell? ⟨gb159, 4, none⟩ = some (.int .i64 a1_4) := (bc_ BK159.out 4).trans rfl; have hfz8_0 := bf_ BK159.out 0; have hfz8_1 := bf_ BK159.out 1; have hfz8_2 := bf_ BK159.out 2; have hfz8_3 := bf_ BK159.out 3; have hfz8_4 := bf_ BK159.out 4) | (go_at_call 129; (with_reducible refine (conf_last.calls a1_0 a1_1 _ _ l1_2 true a1_4 t160 _ ?side1 ?side2 A5.out).mono ?_); (case side1 => repeat (first | exact (Kd.C_below HR1_2.out HB.out) | (with_reducible refine Kd.C_alloc ?_ _) | (with_reducible refine Kd.C_drewN ?_ _) | (with_reducible refine Kd.C_drew ?_))); (case side2 => exact HC1_2.out); rintro e w9 ⟨rfl, hb⟩; have n0_ := am_ (blk_below (g := gb159) (o := .cells #[.int .i64 a1_0, .int .u64 a1_1, .slice A1_2 l1_2.length c1_2, .bool true, .int .i64 a1_4] 54 (0, 0)) (by (with_reducible repeat (first | refine bw_ ?_ _ | refine bx_ ?_ | refine bl_ ?_ _)); exact BK159.out) hb); have n1_ := am_ (bt_ (by repeat (first | (with_reducible first | exact HB.out | apply ba_ | apply bn_ | apply bd_ | refine be_ ?_ GE159.out) | exact HB.out)) hb); clear BK159; clear HB; have BK159 := n0_; have HB := n1_; clear n0_ n1_; (try clear hb); (try clear hb2); (try clear hk); (try clear hi)))
   go_ret
   exact ⟨by first | rfl | (simp [errW_none, errW_some] <;> rfl) | (simp [*, errW_none, errW_some] <;> rfl), by repeat (first | (with_reducible first | exact HB.out | apply ba_ | apply bn_ | apply bd_ | refine be_ ?_ GE159.out) | exact HB.out)⟩
  ·rw [if_neg c6] at H
   have c6b0 : (t160 == a2) = false := beq_eq_false_iff_ne.mpr c6
   have c6b1 : (t160 != a2) = true := bne_iff_ne.mpr c6
   obtain rfl := Option.some.inj H
   go_enter Tryd.func100, Tryd.ntmps100
   go_wp2_with (first | ((with_reducible refine gate_dst (N := 4) rfl ?_); refine box_event ?hg (N := 4) ?hd (cs := #[.int .i64 a1_0, .int .u64 a1_1, .slice A1_2 l1_2.length c1_2, .bool true, .int .i64 a1_4]) (t := 54) ?hr ?_; (case hd => rfl); (case hg => rfl); (case hr => first | (go_simp; done) | (go_simp; rfl)); intro gb159 hg w10 hbox hb; have n0_ := am_ (bt_ (by repeat (first | (with_reducible first | exact HB.out | apply ba_ | apply bn_ | apply bd_) | exact HB.out)) hb); have n1_ := am_ (hbox); have n2_ := am_ ((by rw [hg]; exact (bs_ (by repeat (first | (with_reducible first | exact HB.out | apply ba_ | apply bn_ | apply bd_) | exact HB.out))) : w.heap.size ≤ gb159)); have n3_ := am_ ((by rw [hg]; exact (bs_ (by repeat (first | (with_reducible first | exact HB.out | apply ba_ | apply bn_ | apply bd_) | exact HB.out))) : w.heap.size ≤ gb159)); clear HB; have HB := n0_; have BK159 := n1_; have GW159 := n2_; have GE159 := n3_; clear n0_ n1_ n2_ n3_; clear hb hbox hg; have hcz11_0 : w10.cell? ⟨gb159, 0, none⟩ = some (.int .i64 a1_0) := (bc_ BK159.out 0).trans rfl; have hcz11_1 : w10.cell? ⟨gb159, 1, none⟩ = some (.int .u64 a1_1) := (bc_ BK159.out 1).trans rfl; have hcz11_2 : w10.cell? ⟨gb159, 2, none⟩ = some (.slice A1_2 l1_2.length c1_2) := (bc_ BK159.out 2).trans rfl; have hcz11_3 : w10.cell? ⟨gb159, 3, none⟩ = some (.bool true) := (bc_ BK159.out 3).trans rfl; have hcz11_4 : w10.cell? ⟨gb159, 4, none⟩ = some (.int .i64 a1_4) := (bc_ BK159.out 4).trans rfl; have hfz11_0 := bf_ BK159.out 0; have hfz11_1 := bf_ BK159.out 1; have hfz11_2 := bf_ BK159.out 2; have hfz11_3 := bf_ BK159.out 3; have hfz11_4 := bf_ BK159.out 4) | (go_at_call 129; (with_reducible refine (conf_last.calls a1_0 a1_1 _ _ l1_2 true a1_4 t160 _ ?side1 ?side2 A5.out).mono ?_); (case side1 => repeat (first | exact (Kd.C_below HR1_2.out HB.out) | (with_reducible refine Kd.C_alloc ?_ _) | (with_reducible refine Kd.C_drewN ?_ _) | (with_reducible refine Kd.C_drew ?_))); (case side2 => exact HC1_2.out); rintro e w12 ⟨rfl, hb⟩; have n0_ := am_ (blk_below (g := gb159) (o := .cells #[.int .i64 a1_0, .int .u64 a1_1, .slice A1_2 l1_2.length c1_2, .bool true, .int .i64 a1_4] 54 (0, 0)) (by (with_reducible repeat (first | refine bw_ ?_ _ | refine bx_ ?_ | refine bl_ ?_ _)); exact BK159.out) hb); have n1_ := am_ (bt_ (by repeat (first | (with_reducible first | exact HB.out | apply ba_ | apply bn_ | apply bd_ | refine be_ ?_ GE159.out) | exact HB.out)) hb); clear BK159; clear HB; have BK159 := n0_; have HB := n1_; clear n0_ n1_; (try clear hb); (try clear hb2); (try clear hk); (try clear hi)))
   go_ret
   exact ⟨by first | rfl | (simp [errW_none, errW_some] <;> rfl) | (simp [*, errW_none, errW_some] <;> rfl), by repeat (first | (with_reducible first | exact HB.out | apply ba_ | apply bn_ | apply bd_ | refine be_ ?_ GE159.out) | exact HB.out)⟩
 ·replace c4 := Bool.eq_false_iff.mpr c4
  subst c4
  have H1 : (some 7) = some r := by rw [if_neg (show ¬ (false = true) by decide)] at H; exact H
  clear H
  have H := H1
  clear H1
  obtain rfl := Option.some.inj H
  go_enter Tryd.func100, Tryd.ntmps100
  go_wp2_with (first | ((with_reducible refine gate_dst (N := 4) rfl ?_); refine box_event ?hg (N := 4) ?hd (cs := #[.int .i64 a1_0, .int .u64 a1_1, .slice A1_2 l1_2.length c1_2, .bool false, .int .i64 a1_4]) (t := 54) ?hr ?_; (case hd => rfl); (case hg => rfl); (case hr => first | (go_simp; done) | (go_simp; rfl)); intro gb159 hg w13 hbox hb; have n0_ := am_ (bt_ (by repeat (first | (with_reducible first | exact HB.out | apply ba_ | apply bn_ | apply bd_) | exact HB.out)) hb); have n1_ := am_ (hbox); have n2_ := am_ ((by rw [hg]; exact (bs_ (by repeat (first | (with_reducible first | exact HB.out | apply ba_ | apply bn_ | apply bd_) | exact HB.out))) : w.heap.size ≤ gb159)); have n3_ := am_ ((by rw [hg]; exact (bs_ (by repeat (first | (with_reducible first | exact HB.out | apply ba_ | apply bn_ | apply bd_) | exact HB.out))) : w.heap.size ≤ gb159)); clear HB; have HB := n0_; have BK159 := n1_; have GW159 := n2_; have GE159 := n3_; clear n0_ n1_ n2_ n3_; clear hb hbox hg; have hcz14_0 : w13.cell? ⟨gb159, 0, none⟩ = some (.int .i64 a1_0) := (bc_ BK159.out 0).trans rfl; have hcz14_1 : w13.cell? ⟨gb159, 1, none⟩ = some (.int .u64 a1_1) := (bc_ BK159.out 1).trans rfl; have hcz14_2 : w13.cell? ⟨gb159, 2, none⟩ = some (.slice A1_2 l1_2.length c1_2) := (bc_ BK159.out 2).trans rfl; have hcz14_3 : w13.cell? ⟨gb159, 3, none⟩ = some (.bool false) := (bc_ BK159.out 3).trans rfl; have hcz14_4 : w13.cell? ⟨gb159, 4, none⟩ = some (.int .i64 a1_4) := (bc_ BK159.out 4).trans rfl; have hfz14_0 := bf_ BK159.out 0; have hfz14_1 := bf_ BK159.out 1; have hfz14_2 := bf_ BK159.out 2; have hfz14_3 := bf_ BK159.out 3; have hfz14_4 := bf_ BK159.out 4))
  go_ret
  exact ⟨by first | rfl | (simp [errW_none, errW_some] <;> rfl) | (simp [*, errW_none, errW_some] <;> rfl), by repeat (first | (with_reducible first | exact HB.out | apply ba_ | apply bn_ | apply bd_ | refine be_ ?_ GE159.out) | exact HB.out)⟩
end Go.Proofs.YtlpkandfmbnlnaaDoor.Q
end
section
namespace Go.Proofs.YtlpkandfmbnlnaaDoor.Q
open Go.RowKit Go.Proofs.YtlpkandfmbnlnaaDoor.Q Go.Proofs.YtlpkandfmbnlnaaDoorW.PrintWords Go.Proofs.YtlpkandfmbnlnaaDoorW.PrintLast Go.Proofs.YtlpkandfmbnlnaaDoorW.PrintMore
open Go.Shelf Go.Lib Go.Sort
set_option linter.unusedVariables false
set_option linter.unusedSimpArgs false
set_option maxRecDepth 100000
theorem R_cells {e base g n cap : Nat} {ok : Nat → Prop} : ∀ (ys : List Int) (o : Nat) (xs : List Int) (W : World), Kd.R (Kd.int .i64) e W base ok (.slice (some ⟨g, 0, none⟩) n cap) xs → o + ys.length ≤ xs.length →
  Kd.R (Kd.int .i64) e (W.setCells g o (ys.map (Value.int .i64))) base ok (.slice (some ⟨g, 0, none⟩) n cap) (xs.take o ++ ys ++ xs.drop (o + ys.length)) ∧ W.grownBy (W.setCells g o (ys.map (Value.int .i64))) (some g)
 | [], o, xs, W, h, hl => ⟨by simpa [World.setCells] using h, World.grownBy.refl _ _⟩
 | y :: r, o, xs, W, h, hl => by
  simp only [List.length_cons] at hl
  obtain ⟨h1, h2⟩ := Kd.R_putg h (o : Int) y
  have e1 : ((o : Int)).toNat = o := Int.toNat_natCast o
  rw [e1] at h1 h2
  obtain ⟨h3, h4⟩ := R_cells r (o + 1) (xs.set o y) (W.setCell ⟨g, o, none⟩ (.int .i64 y)) h1 (by rw [List.length_set]; omega)
  refine ⟨?_, World.grownBy.trans h2 h4⟩
  have e2 : (xs.set o y).take (o + 1) ++ r ++ (xs.set o y).drop (o + 1 + r.length) = xs.take o ++ y :: r ++ xs.drop (o + (y :: r).length) := by
   apply List.ext_getElem?
   intro i
   simp only [List.getElem?_append, List.getElem?_take, List.getElem?_drop, List.getElem?_set, List.length_append, List.length_take, List.length_set, List.length_cons, List.length_drop]
   rcases Nat.lt_trichotomy i o with hi | hi | hi
   ·simp [show i < o + 1 by omega, show i < xs.length by omega, show o ≠ i by omega, hi, show i < min o xs.length by omega, show i < min (o + 1) xs.length by omega, show i < min (o + 1) xs.length + r.length by omega, show i < min o xs.length + (r.length + 1) by omega]
   ·subst hi
    simp [show i < xs.length by omega, show min i xs.length = i by omega, show i < min (i + 1) xs.length by omega, show i < min (i + 1) xs.length + r.length by omega]
   ·have m1 : min (o + 1) xs.length = o + 1 := by omega
    have m2 : min o xs.length = o := by omega
    rw [m1, m2]
    by_cases h5 : i < o + 1 + r.length
    ·simp [h5, show ¬ i < o + 1 by omega, show ¬ i < o by omega, show i < o + (r.length + 1) by omega, show i - o = (i - (o + 1)) + 1 by omega]
    ·simp [h5, show ¬ i < o + (r.length + 1) by omega, show o ≠ o + 1 + r.length + (i - (o + 1 + r.length)) by omega]
     rw [show o + 1 + r.length + (i - (o + 1 + r.length)) = o + (r.length + 1) + (i - (o + (r.length + 1))) by omega]
  rw [e2] at h3
  exact h3
theorem gset {w w1 : World} {row : Option Nat} (h : w.grownBy w1 row) {p : Addr} (hp : w.heap.size ≤ p.block) (u : Value) : w.grownBy (w1.setCell p u) row :=
 ⟨h.os, h.tape, h.output, by simpa [World.setCell] using h.size, fun i hi hr => (Below.heap_setCell w1 p u i (by omega)).trans (h.block i hi hr)⟩
theorem del_any (n : Int) (B g cap base : Nat) (ok : Nat → Prop) (xs : List Int) (W : World) (hR : Kd.R (Kd.int .i64) 3 W base ok (.slice (some ⟨g, 0, none⟩) xs.length cap) xs) (hB : B < W.heap.size) (hn : W.cell? ⟨B, 0, none⟩ = some (.int .i64 n)) (hne : B ≠ g) :
  Calls Tryd.prog 130 #[.slice (some ⟨g, 0, none⟩) xs.length cap, .func (.func 131) #[] #[.pointer (some ⟨B, 0, none⟩)]] W fun e w' => e = .returned (.slice (some ⟨g, 0, none⟩) (xs.filter fun x => !(x == n)).length cap) ∧ Kd.R (Kd.int .i64) 3 w' base ok (.slice (some ⟨g, 0, none⟩) (xs.filter fun x => !(x == n)).length cap) (xs.filter fun x => !(x == n)) ∧ W.grownBy w' (some g) := by
 have eg : ∀ args w, (callFunc 131 args).run Tryd.prog w = .ok (.enter 131 args) w := enters_of Tryd.func131 (by kernel_rfl) rfl
 have hp : PredAt Tryd.prog 131 #[.pointer (some ⟨B, 0, none⟩)] (Value.int .i64) (fun x => x == n) W := fun W' x hb => by
  show Calls Tryd.prog 131 #[.int .i64 x, .pointer (some ⟨B, 0, none⟩)] W' _
  refine (rule_eq x n B W' ((hb.cell (p := ⟨B, 0, none⟩) hB).trans hn)).mono ?_
  rintro e w' ⟨rfl, rfl⟩
  exact ⟨rfl, 0, rfl⟩
 have hpo : PredOver Tryd.prog 131 #[.pointer (some ⟨B, 0, none⟩)] (Value.int .i64) (fun x => x == n) g 0 xs.toArray.size W := fun m os dk x _ => by
  show Calls Tryd.prog 131 #[.int .i64 x, .pointer (some ⟨B, 0, none⟩)] _ _
  refine (rule_eq x n B _ ?_).mono ?_
  ·unfold sortWorld
   rw [cell?_grow _ _ _ (by show B < (putRow _ _ _ _ _).heap.size; rw [size_putRow]; exact hB), cell?_putRow_other _ _ g 0 _ _ (Or.inl hne)]
   exact hn
  ·rintro e w' ⟨rfl, rfl⟩
   exact ⟨rfl, 0, rfl⟩
 have hH : Holds (Value.int .i64) W g 0 xs.toArray := fun j hj => by
  have hj' : j < xs.length := by simpa using hj
  obtain ⟨h1, h2⟩ := Kd.R_cell (0 : Int) hR (j : Int) (by omega) (by omega)
  rw [Int.toNat_natCast] at h1 h2
  rw [Nat.zero_add]
  refine ⟨?_, h2⟩
  rw [h1]
  simp [rdOf, getElem!_pos, hj', List.getD_eq_getElem?_getD, List.getElem?_eq_getElem hj']
 have hr := Kd.R_reads' hR
 have hcon := AnyE.slices_DeleteFunc Tryd.delN (Value.int .i64) (fun _ => rfl) (fun x => x == n) 131 #[.pointer (some ⟨B, 0, none⟩)] eg 0 Tryd.zeroValue3 g 0 cap xs.toArray W hp hpo hH (by simpa using hr.2.2.2.1) (by simpa using hr.2.1)
 change Calls Tryd.prog 130 _ _ _ at hcon
 simp only [List.size_toArray, List.toList_toArray] at hcon
 refine hcon.mono ?_
 rintro e w' ⟨rfl, q, rfl⟩
 have hl := List.length_filter_le (fun x => !(x == n)) xs
 generalize hF : (xs.filter fun x => !(x == n)) = F at hl ⊢
 have hys : (F ++ List.replicate (xs.length - F.length) (0 : Int)).length = xs.toArray.size := by simp; omega
 rw [putRow_eq_setCells (Value.int .i64) W g 0 xs.toArray _ q hH hys]
 obtain ⟨h1, h2⟩ := R_cells (F ++ List.replicate (xs.length - F.length) (0 : Int)) 0 xs (W.drewN q) (Kd.R_drewN hR q) (by simp; omega)
 have e1 : xs.take 0 ++ (F ++ List.replicate (xs.length - F.length) (0 : Int)) ++ xs.drop (0 + (F ++ List.replicate (xs.length - F.length) (0 : Int)).length) = F ++ List.replicate (xs.length - F.length) (0 : Int) := by
  rw [List.take_zero, List.nil_append, List.drop_of_length_le (by simp; omega), List.append_nil]
 rw [e1] at h1
 have h3 := Kd.R_take (m := F.length) h1 (by simp)
 rw [List.take_left'  rfl] at h3
 exact ⟨rfl, h3, ⟨h2.os, h2.tape, h2.output, h2.size, h2.block⟩⟩
def Made (W : World) (base : Nat) (v : Value) (a0 a1 : Int) (xs : List Int) (a3 : Bool) (a4 : Int) (e : Ending) (w' : World) : Prop :=
 ∃ v1 : Value, e = .returned (.agg #[.int .i64 a0, .int .u64 a1, v1, .bool a3, .int .i64 a4]) ∧ Kd.R (Kd.int .i64) 3 w' base (fun k => some k = v1.ownBlock) v1 xs ∧ W.grownBy w' v.ownBlock ∧ (v1.ownBlock = v.ownBlock ∨ ∃ b, v1.ownBlock = some b ∧ W.heap.size ≤ b)
theorem rule_2 (a0 a1 : Int) (A : Option Addr) (c : Nat) (xs : List Int) (a3 : Bool) (a4 n : Int) (base : Nat) (ok : Nat → Prop) (W : World) (hR : Kd.R (Kd.int .i64) 3 W base ok (.slice A xs.length c) xs) :
  Calls Tryd.prog 97 #[.agg #[.int .i64 a0, .int .u64 a1, .slice A xs.length c, .bool a3, .int .i64 a4], .int .i64 n] W (Made W base (.slice A xs.length c) a0 a1 xs a3 n) := by
 have HR := Lib.hid hR
 clear hR
 go_enter Tryd.func97, Tryd.ntmps97
 go_wp2_with fail
 go_returns
 unfold Made
 exact ⟨_, rfl, Kd.R_below (Kd.R_tight rfl HR.out) (by go_grown), grown_of_below (by go_grown) _, .inl rfl⟩
theorem rule_4 (a0 a1 : Int) (A : Option Addr) (c : Nat) (xs : List Int) (a3 : Bool) (a4 n : Int) (base : Nat) (ok : Nat → Prop) (W : World) (hR : Kd.R (Kd.int .i64) 3 W base ok (.slice A xs.length c) xs) :
  Calls Tryd.prog 101 #[.agg #[.int .i64 a0, .int .u64 a1, .slice A xs.length c, .bool a3, .int .i64 a4], .int .i64 n] W (Made W base (.slice A xs.length c) a0 a1 xs false a4) := by
 have HR := Lib.hid hR
 clear hR
 go_enter Tryd.func101, Tryd.ntmps101
 go_wp2_with fail
 go_returns
 unfold Made
 exact ⟨_, rfl, Kd.R_below (Kd.R_tight rfl HR.out) (by go_grown), grown_of_below (by go_grown) _, .inl rfl⟩
theorem rule_3 (a0 a1 : Int) (A : Option Addr) (c : Nat) (xs : List Int) (a3 : Bool) (a4 n : Int) (base : Nat) (ok : Nat → Prop) (W : World) (hR : Kd.R (Kd.int .i64) 3 W base ok (.slice A xs.length c) xs) (hbase : base ≤ W.heap.size) (hl : xs.length ≤ 1000000) :
  Calls Tryd.prog 99 #[.agg #[.int .i64 a0, .int .u64 a1, .slice A xs.length c, .bool a3, .int .i64 a4], .int .i64 n] W (Made W base (.slice A xs.length c) a0 a1 (xs ++ [n]) true 0) := by
 have hlt := Kd.R_lt hR
 obtain ⟨W1, hW1⟩ : ∃ W1, W1 = (W.alloc (.cells #[.int .i64 a0, .int .u64 a1, .slice A xs.length c, .bool a3, .int .i64 a4] 54)).alloc (.cells #[.int .i64 0, .int .u64 0, .slice none 0 0, .bool false, .int .i64 0] 54) := ⟨_, rfl⟩
 have hB : Below W.heap.size W W1 := by rw [hW1]; go_grown
 have b2 : W1.heap[W.heap.size]? = some (.cells #[.int .i64 a0, .int .u64 a1, .slice A xs.length c, .bool a3, .int .i64 a4] 54 (0, 0)) := by
  rw [hW1]; exact blk_alloc (blk_new _ _) _
 have b4 : W1.heap[W.heap.size + 1]? = some (.cells #[.int .i64 0, .int .u64 0, .slice none 0 0, .bool false, .int .i64 0] 54 (0, 0)) := by
  rw [hW1]
  have h := blk_new (W.alloc (.cells #[.int .i64 a0, .int .u64 a1, .slice A xs.length c, .bool a3, .int .i64 a4] 54)) (.cells #[.int .i64 0, .int .u64 0, .slice none 0 0, .bool false, .int .i64 0] 54)
  simpa using h
 have hsz : W1.heap.size = W.heap.size + 1 + 1 := by rw [hW1]; simp
 have HR1 := Lib.hid (Kd.R_mono (ok' := fun _ => True) (Kd.R_below hR hB) (fun _ _ => trivial))
 have HB := Lib.hid hB
 have B2 := Lib.hid b2
 have B4 := Lib.hid b4
 have HLT := Lib.hid hlt
 have HBase := Lib.hid (Nat.le_trans hbase hB.size)
 have e2 := (blk_cell b2 2).trans rfl
 clear b2 b4 hB hlt hR hbase
 go_enter Tryd.func99, Tryd.ntmps99
 go_wp2_with ((with_reducible refine gate_builtin (b := .append) (xs := #[.tmp 6, .tmp 8]) rfl ?_); at_builtin; rw [← hW1]; refine Kd.R_append (Kd.int .i64) (w0 := W1) base rfl (.tmp 6) (.tmp 8) 52 3 (.int .i64 0) 8 rfl Tryd.underlying52 info3 rfl (by decide) (by omega) (.slice A xs.length c) xs n [.int .i64 n] (fun _ => True) (fun _ => False) rfl (by rw [hsz]; rfl) (by exact rfl) (fun _ hk => hk.elim) (fun _ _ => trivial) HR1.out (Below.refl _ _) HBase.out (by omega) ?_; intro v1 w1 ho hb hg hat; obtain ⟨A1, c1, rfl⟩ := Kd.R_slice ho; rw [show (xs ++ [n]).length = xs.length + 1 by simp] at ho hat; have B2w := blk_grown B2.out hg (fun h => by have := HLT.out _ h.symm; omega); have B4w := blk_grown B4.out hg (fun h => by have := HLT.out _ h.symm; omega); have d0 : w1.cell? ⟨W.heap.size, 0, none⟩ = some (.int .i64 a0) := (blk_cell B2w 0).trans rfl; have f0 := blk_frozen B2w 0; have d1 : w1.cell? ⟨W.heap.size, 1, none⟩ = some (.int .u64 a1) := (blk_cell B2w 1).trans rfl; have f1 := blk_frozen B2w 1; have d2 : w1.cell? ⟨W.heap.size, 2, none⟩ = some (.slice A xs.length c) := (blk_cell B2w 2).trans rfl; have f2 := blk_frozen B2w 2; have d3 : w1.cell? ⟨W.heap.size, 3, none⟩ = some (.bool a3) := (blk_cell B2w 3).trans rfl; have f3 := blk_frozen B2w 3; have d4 : w1.cell? ⟨W.heap.size, 4, none⟩ = some (.int .i64 a4) := (blk_cell B2w 4).trans rfl; have f4 := blk_frozen B2w 4; have i0 : w1.cell? ⟨W.heap.size + 1, 0, none⟩ = some (.int .i64 0) := (blk_cell B4w 0).trans rfl; have j0 := blk_frozen B4w 0; have i1 : w1.cell? ⟨W.heap.size + 1, 1, none⟩ = some (.int .u64 0) := (blk_cell B4w 1).trans rfl; have j1 := blk_frozen B4w 1; have i2 : w1.cell? ⟨W.heap.size + 1, 2, none⟩ = some (.slice none 0 0) := (blk_cell B4w 2).trans rfl; have j2 := blk_frozen B4w 2; have i3 : w1.cell? ⟨W.heap.size + 1, 3, none⟩ = some (.bool false) := (blk_cell B4w 3).trans rfl; have j3 := blk_frozen B4w 3; have i4 : w1.cell? ⟨W.heap.size + 1, 4, none⟩ = some (.int .i64 0) := (blk_cell B4w 4).trans rfl; have j4 := blk_frozen B4w 4; have HO := Lib.hid ho; have HG := Lib.hid hg; have HAT := Lib.hid hat; have HB4 := Lib.hid B4w; clear ho hb hg hat B2w B4w HR1 B2 B4 hW1)
 have hne : ∀ k, some k = (Value.slice A1 (xs.length + 1) c1).ownBlock → k ≠ W.heap.size ∧ k ≠ W.heap.size + 1 := by
  intro k hk
  rcases HAT.out with h | ⟨b, h, hle⟩
  ·have := HLT.out k (h ▸ hk.symm)
   omega
  ·rw [h] at hk
   injection hk with hk
   omega
 refine bodyPost_ret (results_cell_row rfl _ _ (W.heap.size + 1) 54 #[.int .i64 a0, .int .u64 a1, .slice A1 (xs.length + 1) c1, .bool true, .int .i64 0] (0, 0) _ rfl (blk_put (blk_put (blk_put (blk_put (blk_put (blk_far (blk_far (blk_far HB4.out (by simp) _) (by simp) _) (by simp) _) 0 _ rfl) 1 _ rfl) 2 _ rfl) 3 _ rfl) 4 _ rfl) Tryd.underlying54 rfl (by kernel_rfl)) rfl ?_
 unfold Made
 refine ⟨_, rfl, (Kd.R_far (Kd.R_far (Kd.R_far (Kd.R_far (Kd.R_far (Kd.R_far (Kd.R_far (Kd.R_far (Kd.R_tight rfl HO.out) (fun k hk => (hne k hk).1) _) (fun k hk => (hne k hk).1) _) (fun k hk => (hne k hk).1) _) (fun k hk => (hne k hk).2) _) (fun k hk => (hne k hk).2) _) (fun k hk => (hne k hk).2) _) (fun k hk => (hne k hk).2) _) (fun k hk => (hne k hk).2) _), (gset (gset (gset (gset (gset (gset (gset (gset (World.grownBy.trans (grown_of_below HB.out _) HG.out) (by simp) _) (by simp) _) (by simp) _) (by simp) _) (by simp) _) (by simp) _) (by simp) _) (by simp) _), ?_⟩
 rcases HAT.out with h | ⟨b, h, hle⟩
 ·exact .inl h
 ·exact .inr ⟨b, h, by omega⟩
theorem own_g {k g n c : Nat} (hk : some k = (Value.slice (some ⟨g, 0, none⟩) n c).ownBlock) : k = g := by simpa [Value.ownBlock] using hk
theorem rule_1a (a0 a1 : Int) (A : Option Addr) (c : Nat) (xs : List Int) (a3 : Bool) (n : Int) (base : Nat) (ok : Nat → Prop) (W : World) (hR : Kd.R (Kd.int .i64) 3 W base ok (.slice A xs.length c) xs) :
  Calls Tryd.prog 95 #[.agg #[.int .i64 a0, .int .u64 a1, .slice A xs.length c, .bool a3, .int .i64 n], .int .i64 n] W (Made W base (.slice A xs.length c) a0 a1 xs a3 0) := by
 have HR := Lib.hid hR
 clear hR
 go_enter Tryd.func95, Tryd.ntmps95
 go_wp2_with fail
 go_returns
 unfold Made
 exact ⟨_, rfl, Kd.R_below (Kd.R_tight rfl HR.out) (by go_grown), grown_of_below (by go_grown) _, .inl rfl⟩
set_option maxHeartbeats 4000000 in
theorem rule_1b (a0 a1 : Int) (g : Nat) (c : Nat) (xs : List Int) (a3 : Bool) (a4 n z : Int) (base : Nat) (ok : Nat → Prop) (W : World) (hR : Kd.R (Kd.int .i64) 3 W base ok (.slice (some ⟨g, 0, none⟩) xs.length c) xs) (hn : a4 ≠ n) (hz : conf_last.f a0 a1 xs a3 a4 = some z) :
  Calls Tryd.prog 95 #[.agg #[.int .i64 a0, .int .u64 a1, .slice (some ⟨g, 0, none⟩) xs.length c, .bool a3, .int .i64 a4], .int .i64 n] W (Made W base (.slice (some ⟨g, 0, none⟩) xs.length c) a0 a1 (xs.filter fun x => !(x == n)) (a3 && (z != n)) a4) := by
 have hlt := Kd.R_lt hR g rfl
 have hmf : ∀ (fn : Fn) (first cap : Array Value) (w : World), (Instr.makeFunc fn first cap).run Tryd.prog w = .ok (.func fn first cap) w := fun _ _ _ _ => rfl
 obtain ⟨W1, hW1⟩ : ∃ W1, W1 = ((W.alloc (.cells #[.int .i64 a0, .int .u64 a1, .slice (some ⟨g, 0, none⟩) xs.length c, .bool a3, .int .i64 a4] 54)).alloc (.cells #[.int .i64 n] 3)).alloc (.cells #[.int .i64 0, .int .u64 0, .slice none 0 0, .bool false, .int .i64 0] 54) := ⟨_, rfl⟩
 have hsz : W1.heap.size = W.heap.size + 1 + 1 + 1 := by rw [hW1]; simp
 have hB : Below W.heap.size W W1 := by rw [hW1]; go_grown
 have b2 : W1.heap[W.heap.size]? = some (.cells #[.int .i64 a0, .int .u64 a1, .slice (some ⟨g, 0, none⟩) xs.length c, .bool a3, .int .i64 a4] 54) := by rw [hW1]; exact blk_alloc (blk_alloc (blk_new _ _) _) _
 have b3 : W1.heap[W.heap.size + 1]? = some (.cells #[.int .i64 n] 3) := by
  rw [hW1]
  have h := blk_alloc (blk_new (W.alloc (.cells #[.int .i64 a0, .int .u64 a1, .slice (some ⟨g, 0, none⟩) xs.length c, .bool a3, .int .i64 a4] 54)) (.cells #[.int .i64 n] 3)) (.cells #[.int .i64 0, .int .u64 0, .slice none 0 0, .bool false, .int .i64 0] 54)
  simpa using h
 have b4 : W1.heap[W.heap.size + 2]? = some (.cells #[.int .i64 0, .int .u64 0, .slice none 0 0, .bool false, .int .i64 0] 54) := by
  rw [hW1]
  have h := blk_new ((W.alloc (.cells #[.int .i64 a0, .int .u64 a1, .slice (some ⟨g, 0, none⟩) xs.length c, .bool a3, .int .i64 a4] 54)).alloc (.cells #[.int .i64 n] 3)) (.cells #[.int .i64 0, .int .u64 0, .slice none 0 0, .bool false, .int .i64 0] 54)
  simpa using h
 have hbn : (a4 == n) = false := by simp [hn]
 have HR1 := Lib.hid (Kd.R_tight rfl (Kd.R_below hR hB))
 have hC := Kd.R_reads' (HR1.out)
 have HL := Lib.hid (fun w (hw : Below W1.heap.size W1 w) => conf_last.calls a0 a1 (some ⟨g, 0, none⟩) c xs a3 a4 z w (Kd.C_below hC.2.2 hw) hC.2.1 hz)
 have HB := Lib.hid hB
 have HD := Lib.hid (Below.refl W1.heap.size W1).drew
 have B2 := Lib.hid b2
 have B3 := Lib.hid b3
 have B4 := Lib.hid b4
 clear b2 b3 b4 hB hR hz hC hn
 go_enter Tryd.func95, Tryd.ntmps95
 obtain ⟨F, hF⟩ : ∃ F, (xs.filter fun x => !(x == n)) = F := ⟨_, rfl⟩
 rw [hF]
 cases a3 with
 | false =>
  go_wp2_with fail
  go_region_with (fail)
  all_goals (
   rw [← hW1]
   obtain ⟨X, hX⟩ : ∃ X, X = W1.drew := ⟨_, rfl⟩
   rw [← hX]
   have HBX := Lib.hid (show Below W.heap.size W X by rw [hX]; exact HB.out.drew)
   have HSX := Lib.hid (show W1.heap.size ≤ X.heap.size by rw [hX]; exact Nat.le_refl _)
   have BX2 := Lib.hid (show X.heap[W.heap.size]? = some (.cells #[.int .i64 a0, .int .u64 a1, .slice (some ⟨g, 0, none⟩) xs.length c, .bool false, .int .i64 a4] 54) by rw [hX]; exact B2.out)
   have BX3 := Lib.hid (show X.heap[W.heap.size + 1]? = some (.cells #[.int .i64 n] 3) by rw [hX]; exact B3.out)
   have BX4 := Lib.hid (show X.heap[W.heap.size + 2]? = some (.cells #[.int .i64 0, .int .u64 0, .slice none 0 0, .bool false, .int .i64 0] 54) by rw [hX]; exact B4.out)
   have HRX := Lib.hid (show Kd.R (Kd.int .i64) 3 X base (fun k => some k = (Value.slice (some ⟨g, 0, none⟩) xs.length c).ownBlock) (Value.slice (some ⟨g, 0, none⟩) xs.length c) xs by rw [hX]; exact Kd.R_drew HR1.out)
   clear hX hW1
   have hd := del_any n (W.heap.size + 1) g c base _ xs X HRX.out (by have := HSX.out; omega) ((blk_cell BX3.out 0).trans rfl) (by omega)
   rw [hF] at hd
   have HDEL := Lib.hid hd
   clear hd
   have d0 : X.cell? ⟨W.heap.size, 0, none⟩ = some (.int .i64 a0) := (blk_cell BX2.out 0).trans rfl
   have f0 := blk_frozen BX2.out 0
   have d1 : X.cell? ⟨W.heap.size, 1, none⟩ = some (.int .u64 a1) := (blk_cell BX2.out 1).trans rfl
   have f1 := blk_frozen BX2.out 1
   have d2 : X.cell? ⟨W.heap.size, 2, none⟩ = some (Value.slice (some ⟨g, 0, none⟩) xs.length c) := (blk_cell BX2.out 2).trans rfl
   have f2 := blk_frozen BX2.out 2
   have d3 : X.cell? ⟨W.heap.size, 3, none⟩ = some (.bool false) := (blk_cell BX2.out 3).trans rfl
   have f3 := blk_frozen BX2.out 3
   have d4 : X.cell? ⟨W.heap.size, 4, none⟩ = some (.int .i64 a4) := (blk_cell BX2.out 4).trans rfl
   have f4 := blk_frozen BX2.out 4
   have k0 : X.cell? ⟨W.heap.size + 1, 0, none⟩ = some (.int .i64 n) := (blk_cell BX3.out 0).trans rfl
   have i0 : X.cell? ⟨W.heap.size + 2, 0, none⟩ = some (.int .i64 0) := (blk_cell BX4.out 0).trans rfl
   have j0 := blk_frozen BX4.out 0
   have i1 : X.cell? ⟨W.heap.size + 2, 1, none⟩ = some (.int .u64 0) := (blk_cell BX4.out 1).trans rfl
   have j1 := blk_frozen BX4.out 1
   have i2 : X.cell? ⟨W.heap.size + 2, 2, none⟩ = some (.slice none 0 0) := (blk_cell BX4.out 2).trans rfl
   have j2 := blk_frozen BX4.out 2
   have i3 : X.cell? ⟨W.heap.size + 2, 3, none⟩ = some (.bool false) := (blk_cell BX4.out 3).trans rfl
   have j3 := blk_frozen BX4.out 3
   have i4 : X.cell? ⟨W.heap.size + 2, 4, none⟩ = some (.int .i64 0) := (blk_cell BX4.out 4).trans rfl
   have j4 := blk_frozen BX4.out 4
   go_wp2_with (go_at_call 130; refine HDEL.out.mono ?_; rintro e w5 ⟨rfl, h5, g5⟩; have HB2v := Lib.hid (blk_grown BX2.out g5 (fun h => by injection h; omega)); have HB3v := Lib.hid (blk_grown BX3.out g5 (fun h => by injection h; omega)); have HB4v := Lib.hid (blk_grown BX4.out g5 (fun h => by injection h; omega)); have H5 := Lib.hid h5; have G5 := Lib.hid g5; clear h5 g5 d0 f0 i0 j0 d1 f1 i1 j1 d2 f2 i2 j2 d3 f3 i3 j3 d4 f4 i4 j4 k0; have d0 : w5.cell? ⟨W.heap.size, 0, none⟩ = some (.int .i64 a0) := (blk_cell HB2v.out 0).trans rfl; have f0 := blk_frozen HB2v.out 0; have d1 : w5.cell? ⟨W.heap.size, 1, none⟩ = some (.int .u64 a1) := (blk_cell HB2v.out 1).trans rfl; have f1 := blk_frozen HB2v.out 1; have d2 : w5.cell? ⟨W.heap.size, 2, none⟩ = some (Value.slice (some ⟨g, 0, none⟩) xs.length c) := (blk_cell HB2v.out 2).trans rfl; have f2 := blk_frozen HB2v.out 2; have d3 : w5.cell? ⟨W.heap.size, 3, none⟩ = some (.bool false) := (blk_cell HB2v.out 3).trans rfl; have f3 := blk_frozen HB2v.out 3; have d4 : w5.cell? ⟨W.heap.size, 4, none⟩ = some (.int .i64 a4) := (blk_cell HB2v.out 4).trans rfl; have f4 := blk_frozen HB2v.out 4; have k0 : w5.cell? ⟨W.heap.size + 1, 0, none⟩ = some (.int .i64 n) := (blk_cell HB3v.out 0).trans rfl; have i0 : w5.cell? ⟨W.heap.size + 2, 0, none⟩ = some (.int .i64 0) := (blk_cell HB4v.out 0).trans rfl; have j0 := blk_frozen HB4v.out 0; have i1 : w5.cell? ⟨W.heap.size + 2, 1, none⟩ = some (.int .u64 0) := (blk_cell HB4v.out 1).trans rfl; have j1 := blk_frozen HB4v.out 1; have i2 : w5.cell? ⟨W.heap.size + 2, 2, none⟩ = some (.slice none 0 0) := (blk_cell HB4v.out 2).trans rfl; have j2 := blk_frozen HB4v.out 2; have i3 : w5.cell? ⟨W.heap.size + 2, 3, none⟩ = some (.bool false) := (blk_cell HB4v.out 3).trans rfl; have j3 := blk_frozen HB4v.out 3; have i4 : w5.cell? ⟨W.heap.size + 2, 4, none⟩ = some (.int .i64 0) := (blk_cell HB4v.out 4).trans rfl; have j4 := blk_frozen HB4v.out 4)
   have hne : ∀ k, some k = (Value.slice (some ⟨g, 0, none⟩) F.length c).ownBlock → k ≠ W.heap.size ∧ k ≠ W.heap.size + 2 := fun k hk => by have := own_g hk; omega
   refine bodyPost_ret (results_cell_row rfl _ _ (W.heap.size + 2) 54 #[.int .i64 a0, .int .u64 a1, (Value.slice (some ⟨g, 0, none⟩) F.length c), .bool false, .int .i64 a4] (0, 0) _ rfl (blk_put (blk_put (blk_put (blk_put (blk_put (blk_far HB4v.out (by simp) _) 0 _ rfl) 1 _ rfl) 2 _ rfl) 3 _ rfl) 4 _ rfl) Tryd.underlying54 rfl (by kernel_rfl)) rfl ?_
   unfold Made
   exact ⟨_, by simp, (Kd.R_far (Kd.R_far (Kd.R_far (Kd.R_far (Kd.R_far (Kd.R_far (Kd.R_tight rfl H5.out) (fun k hk => (hne k hk).1) _) (fun k hk => (hne k hk).2) _) (fun k hk => (hne k hk).2) _) (fun k hk => (hne k hk).2) _) (fun k hk => (hne k hk).2) _) (fun k hk => (hne k hk).2) _), (gset (gset (gset (gset (gset (gset (World.grownBy.trans (grown_of_below HBX.out _) G5.out) (by simp <;> omega) _) (by simp <;> omega) _) (by simp <;> omega) _) (by simp <;> omega) _) (by simp <;> omega) _) (by simp <;> omega) _), .inl rfl⟩)
 | true =>
  go_wp2_with fail
  go_region_with (go_at_call 129; rw [← hW1]; refine (HL.out _ HD.out).mono ?_; rintro e w4 ⟨rfl, h4⟩; have HX := Lib.hid (HD.out.trans h4); have B2w := Lib.hid (blk_below B2.out HX.out); have B3w := Lib.hid (blk_below B3.out HX.out); have B4w := Lib.hid (blk_below B4.out HX.out); have d0 : w4.cell? ⟨W.heap.size, 0, none⟩ = some (.int .i64 a0) := (blk_cell B2w.out 0).trans rfl; have f0 := blk_frozen B2w.out 0; have d1 : w4.cell? ⟨W.heap.size, 1, none⟩ = some (.int .u64 a1) := (blk_cell B2w.out 1).trans rfl; have f1 := blk_frozen B2w.out 1; have d2 : w4.cell? ⟨W.heap.size, 2, none⟩ = some (Value.slice (some ⟨g, 0, none⟩) xs.length c) := (blk_cell B2w.out 2).trans rfl; have f2 := blk_frozen B2w.out 2; have d3 : w4.cell? ⟨W.heap.size, 3, none⟩ = some (.bool true) := (blk_cell B2w.out 3).trans rfl; have f3 := blk_frozen B2w.out 3; have d4 : w4.cell? ⟨W.heap.size, 4, none⟩ = some (.int .i64 a4) := (blk_cell B2w.out 4).trans rfl; have f4 := blk_frozen B2w.out 4; have k0 : w4.cell? ⟨W.heap.size + 1, 0, none⟩ = some (.int .i64 n) := (blk_cell B3w.out 0).trans rfl; have i0 : w4.cell? ⟨W.heap.size + 2, 0, none⟩ = some (.int .i64 0) := (blk_cell B4w.out 0).trans rfl; have j0 := blk_frozen B4w.out 0; have i1 : w4.cell? ⟨W.heap.size + 2, 1, none⟩ = some (.int .u64 0) := (blk_cell B4w.out 1).trans rfl; have j1 := blk_frozen B4w.out 1; have i2 : w4.cell? ⟨W.heap.size + 2, 2, none⟩ = some (.slice none 0 0) := (blk_cell B4w.out 2).trans rfl; have j2 := blk_frozen B4w.out 2; have i3 : w4.cell? ⟨W.heap.size + 2, 3, none⟩ = some (.bool false) := (blk_cell B4w.out 3).trans rfl; have j3 := blk_frozen B4w.out 3; have i4 : w4.cell? ⟨W.heap.size + 2, 4, none⟩ = some (.int .i64 0) := (blk_cell B4w.out 4).trans rfl; have j4 := blk_frozen B4w.out 4; clear h4 hW1)
  all_goals (
   clear d0 f0 i0 j0 d1 f1 i1 j1 d2 f2 i2 j2 d3 f3 i3 j3 d4 f4 i4 j4 k0
   obtain ⟨X, hX⟩ : ∃ X, X = w4.setCell ⟨W.heap.size, 3, none⟩ (.bool (z != n)) := ⟨_, rfl⟩
   rw [← hX]
   have HB4 := Lib.hid (HB.out.trans (HX.out.mono HB.out.size))
   have HBX := Lib.hid (show Below W.heap.size W X by rw [hX]; exact below_set HB4.out (Nat.le_refl _))
   have HSX := Lib.hid (show W1.heap.size ≤ X.heap.size by rw [hX]; simpa [World.setCell] using HX.out.size)
   have BX2 := Lib.hid (show X.heap[W.heap.size]? = some (.cells #[.int .i64 a0, .int .u64 a1, .slice (some ⟨g, 0, none⟩) xs.length c, .bool (z != n), .int .i64 a4] 54) by rw [hX]; exact blk_put B2w.out 3 _ rfl)
   have BX3 := Lib.hid (show X.heap[W.heap.size + 1]? = some (.cells #[.int .i64 n] 3) by rw [hX]; exact blk_far B3w.out (by simp) _)
   have BX4 := Lib.hid (show X.heap[W.heap.size + 2]? = some (.cells #[.int .i64 0, .int .u64 0, .slice none 0 0, .bool false, .int .i64 0] 54) by rw [hX]; exact blk_far B4w.out (by simp) _)
   have HRX := Lib.hid (show Kd.R (Kd.int .i64) 3 X base (fun k => some k = (Value.slice (some ⟨g, 0, none⟩) xs.length c).ownBlock) (Value.slice (some ⟨g, 0, none⟩) xs.length c) xs by rw [hX]; exact Kd.R_far (Kd.R_below HR1.out HX.out) (fun k hk => by have := own_g hk; simp; omega) _)
   clear hX
   have hd := del_any n (W.heap.size + 1) g c base _ xs X HRX.out (by have := HSX.out; omega) ((blk_cell BX3.out 0).trans rfl) (by omega)
   rw [hF] at hd
   have HDEL := Lib.hid hd
   clear hd
   have d0 : X.cell? ⟨W.heap.size, 0, none⟩ = some (.int .i64 a0) := (blk_cell BX2.out 0).trans rfl
   have f0 := blk_frozen BX2.out 0
   have d1 : X.cell? ⟨W.heap.size, 1, none⟩ = some (.int .u64 a1) := (blk_cell BX2.out 1).trans rfl
   have f1 := blk_frozen BX2.out 1
   have d2 : X.cell? ⟨W.heap.size, 2, none⟩ = some (Value.slice (some ⟨g, 0, none⟩) xs.length c) := (blk_cell BX2.out 2).trans rfl
   have f2 := blk_frozen BX2.out 2
   have d3 : X.cell? ⟨W.heap.size, 3, none⟩ = some (.bool (z != n)) := (blk_cell BX2.out 3).trans rfl
   have f3 := blk_frozen BX2.out 3
   have d4 : X.cell? ⟨W.heap.size, 4, none⟩ = some (.int .i64 a4) := (blk_cell BX2.out 4).trans rfl
   have f4 := blk_frozen BX2.out 4
   have k0 : X.cell? ⟨W.heap.size + 1, 0, none⟩ = some (.int .i64 n) := (blk_cell BX3.out 0).trans rfl
   have i0 : X.cell? ⟨W.heap.size + 2, 0, none⟩ = some (.int .i64 0) := (blk_cell BX4.out 0).trans rfl
   have j0 := blk_frozen BX4.out 0
   have i1 : X.cell? ⟨W.heap.size + 2, 1, none⟩ = some (.int .u64 0) := (blk_cell BX4.out 1).trans rfl
   have j1 := blk_frozen BX4.out 1
   have i2 : X.cell? ⟨W.heap.size + 2, 2, none⟩ = some (.slice none 0 0) := (blk_cell BX4.out 2).trans rfl
   have j2 := blk_frozen BX4.out 2
   have i3 : X.cell? ⟨W.heap.size + 2, 3, none⟩ = some (.bool false) := (blk_cell BX4.out 3).trans rfl
   have j3 := blk_frozen BX4.out 3
   have i4 : X.cell? ⟨W.heap.size + 2, 4, none⟩ = some (.int .i64 0) := (blk_cell BX4.out 4).trans rfl
   have j4 := blk_frozen BX4.out 4
   go_wp2_with (go_at_call 130; refine HDEL.out.mono ?_; rintro e w5 ⟨rfl, h5, g5⟩; have HB2v := Lib.hid (blk_grown BX2.out g5 (fun h => by injection h; omega)); have HB3v := Lib.hid (blk_grown BX3.out g5 (fun h => by injection h; omega)); have HB4v := Lib.hid (blk_grown BX4.out g5 (fun h => by injection h; omega)); have H5 := Lib.hid h5; have G5 := Lib.hid g5; clear h5 g5 d0 f0 i0 j0 d1 f1 i1 j1 d2 f2 i2 j2 d3 f3 i3 j3 d4 f4 i4 j4 k0; have d0 : w5.cell? ⟨W.heap.size, 0, none⟩ = some (.int .i64 a0) := (blk_cell HB2v.out 0).trans rfl; have f0 := blk_frozen HB2v.out 0; have d1 : w5.cell? ⟨W.heap.size, 1, none⟩ = some (.int .u64 a1) := (blk_cell HB2v.out 1).trans rfl; have f1 := blk_frozen HB2v.out 1; have d2 : w5.cell? ⟨W.heap.size, 2, none⟩ = some (Value.slice (some ⟨g, 0, none⟩) xs.length c) := (blk_cell HB2v.out 2).trans rfl; have f2 := blk_frozen HB2v.out 2; have d3 : w5.cell? ⟨W.heap.size, 3, none⟩ = some (.bool (z != n)) := (blk_cell HB2v.out 3).trans rfl; have f3 := blk_frozen HB2v.out 3; have d4 : w5.cell? ⟨W.heap.size, 4, none⟩ = some (.int .i64 a4) := (blk_cell HB2v.out 4).trans rfl; have f4 := blk_frozen HB2v.out 4; have k0 : w5.cell? ⟨W.heap.size + 1, 0, none⟩ = some (.int .i64 n) := (blk_cell HB3v.out 0).trans rfl; have i0 : w5.cell? ⟨W.heap.size + 2, 0, none⟩ = some (.int .i64 0) := (blk_cell HB4v.out 0).trans rfl; have j0 := blk_frozen HB4v.out 0; have i1 : w5.cell? ⟨W.heap.size + 2, 1, none⟩ = some (.int .u64 0) := (blk_cell HB4v.out 1).trans rfl; have j1 := blk_frozen HB4v.out 1; have i2 : w5.cell? ⟨W.heap.size + 2, 2, none⟩ = some (.slice none 0 0) := (blk_cell HB4v.out 2).trans rfl; have j2 := blk_frozen HB4v.out 2; have i3 : w5.cell? ⟨W.heap.size + 2, 3, none⟩ = some (.bool false) := (blk_cell HB4v.out 3).trans rfl; have j3 := blk_frozen HB4v.out 3; have i4 : w5.cell? ⟨W.heap.size + 2, 4, none⟩ = some (.int .i64 0) := (blk_cell HB4v.out 4).trans rfl; have j4 := blk_frozen HB4v.out 4)
   have hne : ∀ k, some k = (Value.slice (some ⟨g, 0, none⟩) F.length c).ownBlock → k ≠ W.heap.size ∧ k ≠ W.heap.size + 2 := fun k hk => by have := own_g hk; omega
   refine bodyPost_ret (results_cell_row rfl _ _ (W.heap.size + 2) 54 #[.int .i64 a0, .int .u64 a1, (Value.slice (some ⟨g, 0, none⟩) F.length c), .bool (z != n), .int .i64 a4] (0, 0) _ rfl (blk_put (blk_put (blk_put (blk_put (blk_put (blk_far HB4v.out (by simp) _) 0 _ rfl) 1 _ rfl) 2 _ rfl) 3 _ rfl) 4 _ rfl) Tryd.underlying54 rfl (by kernel_rfl)) rfl ?_
   unfold Made
   exact ⟨_, by simp, (Kd.R_far (Kd.R_far (Kd.R_far (Kd.R_far (Kd.R_far (Kd.R_far (Kd.R_tight rfl H5.out) (fun k hk => (hne k hk).1) _) (fun k hk => (hne k hk).2) _) (fun k hk => (hne k hk).2) _) (fun k hk => (hne k hk).2) _) (fun k hk => (hne k hk).2) _) (fun k hk => (hne k hk).2) _), (gset (gset (gset (gset (gset (gset (World.grownBy.trans (grown_of_below HBX.out _) G5.out) (by simp <;> omega) _) (by simp <;> omega) _) (by simp <;> omega) _) (by simp <;> omega) _) (by simp <;> omega) _) (by simp <;> omega) _), .inl rfl⟩)
end Go.Proofs.YtlpkandfmbnlnaaDoor.Q
end
