/- What the proof of the claim leans on, of these texts: Q8; only what is used. -/
import Derived.Laws.StructEq
import Derived.Test.YtlpkandfmbnlnaaDoorK1
import Derived.Test.YtlpkandfmbnlnaaDoorK2
import Derived.Test.YtlpkandfmbnlnaaDoorK3
import Derived.Test.YtlpkandfmbnlnaaDoorK4
namespace Go.Proofs.YtlpkandfmbnlnaaDoor
end Go.Proofs.YtlpkandfmbnlnaaDoor
namespace Go.Proofs.YtlpkandfmbnlnaaDoor.Cmd
end Go.Proofs.YtlpkandfmbnlnaaDoor.Cmd
namespace Go.Proofs.YtlpkandfmbnlnaaDoor.Fix
end Go.Proofs.YtlpkandfmbnlnaaDoor.Fix
namespace Go.Proofs.YtlpkandfmbnlnaaDoor.Laid
end Go.Proofs.YtlpkandfmbnlnaaDoor.Laid
namespace Go.Proofs.YtlpkandfmbnlnaaDoor.Mem
end Go.Proofs.YtlpkandfmbnlnaaDoor.Mem
namespace Go.Proofs.YtlpkandfmbnlnaaDoor.Num
end Go.Proofs.YtlpkandfmbnlnaaDoor.Num
namespace Go.Proofs.YtlpkandfmbnlnaaDoor.Opn
end Go.Proofs.YtlpkandfmbnlnaaDoor.Opn
namespace Go.Proofs.YtlpkandfmbnlnaaDoor.Q
end Go.Proofs.YtlpkandfmbnlnaaDoor.Q
namespace Go.Proofs.YtlpkandfmbnlnaaDoor.R
end Go.Proofs.YtlpkandfmbnlnaaDoor.R
namespace Go.Proofs.YtlpkandfmbnlnaaDoor.Ref
end Go.Proofs.YtlpkandfmbnlnaaDoor.Ref
namespace Go.Proofs.YtlpkandfmbnlnaaDoor.Str
end Go.Proofs.YtlpkandfmbnlnaaDoor.Str
namespace Go.Proofs.YtlpkandfmbnlnaaDoor.Txt
end Go.Proofs.YtlpkandfmbnlnaaDoor.Txt
namespace Go.Proofs.YtlpkandfmbnlnaaDoor.confDoes
end Go.Proofs.YtlpkandfmbnlnaaDoor.confDoes
namespace Go.Proofs.YtlpkandfmbnlnaaDoorW.PrintLast
end Go.Proofs.YtlpkandfmbnlnaaDoorW.PrintLast
namespace Go.Proofs.YtlpkandfmbnlnaaDoorW.PrintMore
end Go.Proofs.YtlpkandfmbnlnaaDoorW.PrintMore
namespace Go.Proofs.YtlpkandfmbnlnaaDoorW.PrintWords
end Go.Proofs.YtlpkandfmbnlnaaDoorW.PrintWords
section
namespace Go.Proofs.YtlpkandfmbnlnaaDoor.Q
end Go.Proofs.YtlpkandfmbnlnaaDoor.Q
namespace Go.Proofs.YtlpkandfmbnlnaaDoor.R
end Go.Proofs.YtlpkandfmbnlnaaDoor.R
namespace Go.Proofs.YtlpkandfmbnlnaaDoor.Q
open Go.RowKit Go.Proofs.YtlpkandfmbnlnaaDoorW.PrintWords Go.Proofs.YtlpkandfmbnlnaaDoorW.PrintLast Go.Proofs.YtlpkandfmbnlnaaDoorW.PrintMore
attribute [local go_sem] max2_int min2_int max_two min_two max_three min_three max_four min_four   -- for this text's walks alone
set_option linter.unusedVariables false
set_option linter.unusedSimpArgs false
open Go.Proofs.YtlpkandfmbnlnaaDoor.Q Go.Proofs.YtlpkandfmbnlnaaDoor.R
mutual
def catenaryref09_can.j0 : Nat → Bool → Int → Int → List Int → Bool → Int → Option (Int)
 | 0, _, _, _, _, _, _ => none
 | k + 1, x54, x256000, x256001, x256002, x256003, x256004 => if x54 = true then (some 12) else (if (x256002.length : Int) = 5 then (some 9) else (if x256001 = 18446744073709551615 then (some 9) else (some 0)))
def catenaryref09_can.j1 : Nat → Bool → Int → Int → List Int → Bool → Int → Option (Int)
 | 0, _, _, _, _, _, _ => none
 | k + 1, x26, x256000, x256001, x256002, x256003, x256004 => if x26 = true then (some 7) else (if x256001 = 18446744073709551615 then (some 9) else (some 0))
end
def catenaryref09_can.f (k : Nat) (l0 : List (S54)) (a1_0 : Int) (a1_1 : Int) (l1_2 : List Int) (a1_3 : Bool) (a1_4 : Int) (a2_0 : Int) (a2_1 : Int) (a2_2 : Int) (a2_3 : Int) : Option (Int) := if 0 ≤ (wrap64 ((l1_2.length : Int) - 1)) then (if (wrap64 ((l1_2.length : Int) - 1)) < (l1_2.length : Int) then (if a2_0 = 1 then ((catenaryref09_Stands.f a1_0 a1_1 l1_2 a1_3 a1_4).bind fun t258 => ((catenaryref04_Has.f k t258 a2_3).bind fun t261 => (if t261 = true then ((catenaryref09_Settled.f k a1_0 a1_1 l1_2 a1_3 a1_4).bind fun t262 => ((catenaryref04_Without.f k t262 a2_3).bind fun t265 => (if (t265.length : Int) = 0 then (some 12) else (if a1_1 = 18446744073709551615 then (some 9) else (some 0))))) else (some 7)))) else (if a2_0 = 2 then ((catenaryref09_Used.f k l0 a2_3).bind fun t268 => (if t268 = true then (some 8) else (if a1_4 = 0 then (catenaryref09_can.j0 k a1_3 a1_0 a1_1 l1_2 a1_3 a1_4) else (catenaryref09_can.j0 k true a1_0 a1_1 l1_2 a1_3 a1_4)))) else (if a2_0 = 3 then (if a1_4 = a2_3 then (if (l1_2.length : Int) = 5 then (some 9) else (if a1_1 = 18446744073709551615 then (some 9) else (some 0))) else (some 7)) else (if a1_3 = true then (catenaryref09_can.j1 k ((rd l1_2 (wrap64 ((l1_2.length : Int) - 1))) != a2_3) a1_0 a1_1 l1_2 a1_3 a1_4) else (catenaryref09_can.j1 k true a1_0 a1_1 l1_2 a1_3 a1_4))))) else (none)) else (none)
set_option maxHeartbeats 8000000 in
set_option maxRecDepth 100000 in
theorem catenaryref09_can.calls (k : Nat) (A0 : Option Addr) (c0 : Nat) (l0 : List (S54)) (a1_0 : Int) (a1_1 : Int) (A1_2 : Option Addr) (c1_2 : Nat) (l1_2 : List Int) (a1_3 : Bool) (a1_4 : Int) (a2_0 : Int) (a2_1 : Int) (a2_2 : Int) (a2_3 : Int) (r : Int) (w : World) (hr0 : Kd.C k54 w A0 l0.length l0) (hc0 : l0.length ≤ c0) (hr1_2 : Kd.C (Kd.int .i64) w A1_2 l1_2.length l1_2) (hc1_2 : l1_2.length ≤ c1_2) (h : catenaryref09_can.f k l0 a1_0 a1_1 l1_2 a1_3 a1_4 a2_0 a2_1 a2_2 a2_3 = some r) :
  Calls Tryd.prog 64 #[.slice A0 l0.length c0, .agg #[.int .i64 a1_0, .int .u64 a1_1, .slice A1_2 l1_2.length c1_2, .bool a1_3, .int .i64 a1_4], .agg #[.int .i64 a2_0, .int .i64 a2_1, .int .u64 a2_2, .int .i64 a2_3]] w fun e w' => e = .returned (.int .i64 r) ∧ Below w.heap.size w w' := by
 have hu54 := Tryd.underlying54
 have hu24 := Tryd.underlying24
 have HR0 := am_ hr0
 have HC0 := am_ hc0
 clear hr0 hc0
 have HR1_2 := am_ hr1_2
 have HC1_2 := am_ hc1_2
 clear hr1_2 hc1_2
 have HB := am_ (Below.refl w.heap.size w)
 have H : (if 0 ≤ (wrap64 ((l1_2.length : Int) - 1)) then (if (wrap64 ((l1_2.length : Int) - 1)) < (l1_2.length : Int) then (if a2_0 = 1 then ((catenaryref09_Stands.f a1_0 a1_1 l1_2 a1_3 a1_4).bind fun t258 => ((catenaryref04_Has.f k t258 a2_3).bind fun t261 => (if t261 = true then ((catenaryref09_Settled.f k a1_0 a1_1 l1_2 a1_3 a1_4).bind fun t262 => ((catenaryref04_Without.f k t262 a2_3).bind fun t265 => (if (t265.length : Int) = 0 then (some 12) else (if a1_1 = 18446744073709551615 then (some 9) else (some 0))))) else (some 7)))) else (if a2_0 = 2 then ((catenaryref09_Used.f k l0 a2_3).bind fun t268 => (if t268 = true then (some 8) else (if a1_4 = 0 then (catenaryref09_can.j0 k a1_3 a1_0 a1_1 l1_2 a1_3 a1_4) else (catenaryref09_can.j0 k true a1_0 a1_1 l1_2 a1_3 a1_4)))) else (if a2_0 = 3 then (if a1_4 = a2_3 then (if (l1_2.length : Int) = 5 then (some 9) else (if a1_1 = 18446744073709551615 then (some 9) else (some 0))) else (some 7)) else (if a1_3 = true then (catenaryref09_can.j1 k ((rd l1_2 (wrap64 ((l1_2.length : Int) - 1))) != a2_3) a1_0 a1_1 l1_2 a1_3 a1_4) else (catenaryref09_can.j1 k true a1_0 a1_1 l1_2 a1_3 a1_4))))) else (none)) else (none)) = some r := h
 clear h
 obtain ⟨ji4, hji4⟩ : ∃ j_ : Int, (wrap64 ((l1_2.length : Int) - 1)) = j_ := ⟨_, rfl⟩
 replace H : (if 0 ≤ (ji4) then (if (ji4) < (l1_2.length : Int) then (if a2_0 = 1 then ((catenaryref09_Stands.f a1_0 a1_1 l1_2 a1_3 a1_4).bind fun t258 => ((catenaryref04_Has.f k t258 a2_3).bind fun t261 => (if t261 = true then ((catenaryref09_Settled.f k a1_0 a1_1 l1_2 a1_3 a1_4).bind fun t262 => ((catenaryref04_Without.f k t262 a2_3).bind fun t265 => (if (t265.length : Int) = 0 then (some 12) else (if a1_1 = 18446744073709551615 then (some 9) else (some 0))))) else (some 7)))) else (if a2_0 = 2 then ((catenaryref09_Used.f k l0 a2_3).bind fun t268 => (if t268 = true then (some 8) else (if a1_4 = 0 then (catenaryref09_can.j0 k a1_3 a1_0 a1_1 l1_2 a1_3 a1_4) else (catenaryref09_can.j0 k true a1_0 a1_1 l1_2 a1_3 a1_4)))) else (if a2_0 = 3 then (if a1_4 = a2_3 then (if (l1_2.length : Int) = 5 then (some 9) else (if a1_1 = 18446744073709551615 then (some 9) else (some 0))) else (some 7)) else (if a1_3 = true then (catenaryref09_can.j1 k ((rd l1_2 (ji4)) != a2_3) a1_0 a1_1 l1_2 a1_3 a1_4) else (catenaryref09_can.j1 k true a1_0 a1_1 l1_2 a1_3 a1_4))))) else (none)) else (none)) = some r := by first | (rw [hji4] at H; exact H) | (simp only [hji4] at H ⊢; exact H)
 have hji4w : (IntKind.i64.wrap ((l1_2.length : Int) - 1)) = ji4 := (i64_w _).trans hji4
 by_cases c5 : 0 ≤ (ji4)
 ·rw [if_pos c5] at H
  have c5b0 : decide (0 ≤ (ji4)) = true := decide_eq_true c5
  clear c5
  by_cases c6 : (ji4) < (l1_2.length : Int)
  ·rw [if_pos c6] at H
   have c6b0 : decide ((ji4) < (l1_2.length : Int)) = true := decide_eq_true c6
   clear c6
   by_cases c7 : a2_0 = 1
   ·rw [if_pos c7] at H
    have c7b0 : (a2_0 == 1) = true := beq_iff_eq.mpr c7
    have c7b1 : (a2_0 != 1) = false := bne_eq_false_iff_eq.mpr c7
    clear c7
    replace H := Option.bind_eq_some_iff.mp H
    obtain ⟨t258, A80, H⟩ := H
    replace H : ((catenaryref04_Has.f k t258 a2_3).bind fun t261 => (if t261 = true then ((catenaryref09_Settled.f k a1_0 a1_1 l1_2 a1_3 a1_4).bind fun t262 => ((catenaryref04_Without.f k t262 a2_3).bind fun t265 => (if (t265.length : Int) = 0 then (some 12) else (if a1_1 = 18446744073709551615 then (some 9) else (some 0))))) else (some 7))) = some r := H
    have A8 := am_ A80
    clear A80
    replace H := Option.bind_eq_some_iff.mp H
    obtain ⟨t261, A90, H⟩ := H
    replace H : (if t261 = true then ((catenaryref09_Settled.f k a1_0 a1_1 l1_2 a1_3 a1_4).bind fun t262 => ((catenaryref04_Without.f k t262 a2_3).bind fun t265 => (if (t265.length : Int) = 0 then (some 12) else (if a1_1 = 18446744073709551615 then (some 9) else (some 0))))) else (some 7)) = some r := H
    have A9 := am_ A90
    clear A90
    by_cases c10 : t261 = true
    ·subst c10
     have H1 : ((catenaryref09_Settled.f k a1_0 a1_1 l1_2 a1_3 a1_4).bind fun t262 => ((catenaryref04_Without.f k t262 a2_3).bind fun t265 => (if (t265.length : Int) = 0 then (some 12) else (if a1_1 = 18446744073709551615 then (some 9) else (some 0))))) = some r := by rw [if_pos rfl] at H; exact H
     clear H
     have H := H1
     clear H1
     replace H := Option.bind_eq_some_iff.mp H
     obtain ⟨t262, A110, H⟩ := H
     replace H : ((catenaryref04_Without.f k t262 a2_3).bind fun t265 => (if (t265.length : Int) = 0 then (some 12) else (if a1_1 = 18446744073709551615 then (some 9) else (some 0)))) = some r := H
     have A11 := am_ A110
     clear A110
     replace H := Option.bind_eq_some_iff.mp H
     obtain ⟨t265, A120, H⟩ := H
     replace H : (if (t265.length : Int) = 0 then (some 12) else (if a1_1 = 18446744073709551615 then (some 9) else (some 0))) = some r := H
     have A12 := am_ A120
     clear A120
     by_cases c13 : (t265.length : Int) = 0
     ·rw [if_pos c13] at H
      have c13b0 : ((t265.length : Int) == 0) = true := beq_iff_eq.mpr c13
      have c13b1 : ((t265.length : Int) != 0) = false := bne_eq_false_iff_eq.mpr c13
      clear c13
      obtain rfl := Option.some.inj H
      go_enter Tryd.func64, Tryd.ntmps64
      try go_wp2_with (first | ((with_reducible refine gate_dst (N := 4) rfl ?_); refine box_event ?hg (N := 4) ?hd (cs := #[.int .i64 a1_0, .int .u64 a1_1, .slice A1_2 l1_2.length c1_2, .bool a1_3, .int .i64 a1_4]) (t := 54) ?hr ?_; (case hd => rfl); (case hg => rfl); (case hr => first | (go_simp; done) | (go_simp; rfl)); intro gb255 hg w14 hbox hb; have n0_ := am_ (bt_ (by repeat (first | (with_reducible first | exact HB.out | apply ba_ | apply bn_ | apply bd_) | exact HB.out)) hb); have n1_ := am_ (hbox); have n2_ := am_ ((by rw [hg]; exact (bs_ (by repeat (first | (with_reducible first | exact HB.out | apply ba_ | apply bn_ | apply bd_) | exact HB.out))) : w.heap.size ≤ gb255)); have n3_ := am_ ((by rw [hg]; exact (bs_ (by repeat (first | (with_reducible first | exact HB.out | apply ba_ | apply bn_ | apply bd_) | exact HB.out))) : w.heap.size ≤ gb255)); clear HB; have HB := n0_; have BK255 := n1_; have GW255 := n2_; have GE255 := n3_; clear n0_ n1_ n2_ n3_; clear hb hbox hg) | ((with_reducible refine gate_dst (N := 5) rfl ?_); refine box_event ?hg (N := 5) ?hd (cs := #[.int .i64 a2_0, .int .i64 a2_1, .int .u64 a2_2, .int .i64 a2_3]) (t := 24) ?hr ?_; (case hd => rfl); (case hg => rfl); (case hr => first | (go_simp; done) | (go_simp; rfl)); intro gb256 hg w15 hbox hb; have n0_ := am_ (blk_below (g := gb255) (o := .cells #[.int .i64 a1_0, .int .u64 a1_1, .slice A1_2 l1_2.length c1_2, .bool a1_3, .int .i64 a1_4] 54 (0, 0)) (by (with_reducible repeat (first | refine bw_ ?_ _ | refine bx_ ?_ | refine bl_ ?_ _)); exact BK255.out) hb); have n1_ := am_ (bt_ (by repeat (first | (with_reducible first | exact HB.out | apply ba_ | apply bn_ | apply bd_ | refine be_ ?_ GE255.out) | exact HB.out)) hb); have n2_ := am_ (hbox); have n3_ := am_ ((by rw [hg]; exact (bs_ (by repeat (first | (with_reducible first | exact HB.out | apply ba_ | apply bn_ | apply bd_ | refine be_ ?_ GE255.out) | exact HB.out))) : w.heap.size ≤ gb256)); have n4_ := am_ ((by rw [hg]; exact (bs_ (by repeat (first | (with_reducible first | exact HB.out | apply ba_ | apply bn_ | apply bd_ | refine be_ ?_ GE255.out) | exact HB.out))) : w.heap.size ≤ gb256)); have n5_ := am_ ((by rw [hg]; exact Nat.ne_of_lt (blk_lt (g := gb255) (o := .cells #[.int .i64 a1_0, .int .u64 a1_1, .slice A1_2 l1_2.length c1_2, .bool a1_3, .int .i64 a1_4] 54 (0, 0)) (by (with_reducible repeat (first | refine bw_ ?_ _ | refine bx_ ?_ | refine bl_ ?_ _)); exact BK255.out)) : gb255 ≠ gb256)); have n6_ := am_ ((by rw [hg]; exact Nat.ne_of_gt (blk_lt (g := gb255) (o := .cells #[.int .i64 a1_0, .int .u64 a1_1, .slice A1_2 l1_2.length c1_2, .bool a1_3, .int .i64 a1_4] 54 (0, 0)) (by (with_reducible repeat (first | refine bw_ ?_ _ | refine bx_ ?_ | refine bl_ ?_ _)); exact BK255.out)) : gb256 ≠ gb255)); clear BK255; clear HB; have BK255 := n0_; have HB := n1_; have BK256 := n2_; have GW256 := n3_; have GE256 := n4_; have NB255_256 := n5_; have NB256_255 := n6_; clear n0_ n1_ n2_ n3_ n4_ n5_ n6_; clear hb hbox hg; have hnb16 := NB255_256.out; have hnc16 := NB256_255.out; have hcz17_0 : w15.cell? ⟨gb255, 0, none⟩ = some (.int .i64 a1_0) := (bc_ BK255.out 0).trans rfl; have hcz17_1 : w15.cell? ⟨gb255, 1, none⟩ = some (.int .u64 a1_1) := (bc_ BK255.out 1).trans rfl; have hcz17_2 : w15.cell? ⟨gb255, 2, none⟩ = some (.slice A1_2 l1_2.length c1_2) := (bc_ BK255.out 2).trans rfl; have hcz17_3 : w15.cell? ⟨gb255, 3, none⟩ = some (.bool a1_3) := (bc_ BK255.out 3).trans rfl; have hcz17_4 : w15.cell? ⟨gb255, 4, none⟩ = some (.int .i64 a1_4) := (bc_ BK255.out 4).trans rfl; have hfz17_0 := bf_ BK255.out 0; have hfz17_1 := bf_ BK255.out 1; have hfz17_2 := bf_ BK255.out 2; have hfz17_3 := bf_ BK255.out 3; have hfz17_4 := bf_ BK255.out 4; have p257 : 0 ≤ ((ji4) : Int) := od_ (by first | (with_reducible assumption) | assumption); have q257 : (ji4) < (l1_2.length : Int) := od_ (by first | (with_reducible assumption) | assumption); obtain ⟨ad257, e257, hx257_0⟩ := Kd.at_int HR1_2.out (ji4) p257 q257; cases e257; replace hx257_0 := (HB.out.cell (cl_ w _ hx257_0)).trans hx257_0; replace p257 := eq_true p257; replace q257 := eq_true q257; have hcz18_0 : w15.cell? ⟨gb256, 0, none⟩ = some (.int .i64 a2_0) := (bc_ BK256.out 0).trans rfl; have hcz18_1 : w15.cell? ⟨gb256, 1, none⟩ = some (.int .i64 a2_1) := (bc_ BK256.out 1).trans rfl; have hcz18_2 : w15.cell? ⟨gb256, 2, none⟩ = some (.int .u64 a2_2) := (bc_ BK256.out 2).trans rfl; have hcz18_3 : w15.cell? ⟨gb256, 3, none⟩ = some (.int .i64 a2_3) := (bc_ BK256.out 3).trans rfl; have hfz18_0 := bf_ BK256.out 0; have hfz18_1 := bf_ BK256.out 1; have hfz18_2 := bf_ BK256.out 2; have hfz18_3 := bf_ BK256.out 3))
      have n0_ := am_ (bx_ BK255.out)
      have n1_ := am_ (bx_ BK256.out)
      have n2_ := am_ (bd_ HB.out)
      clear BK255
      clear BK256
      clear HB
      have BK255 := n0_
      have BK256 := n1_
      have HB := n2_
      clear n0_ n1_ n2_
      refine start_ (n := 6) (S := fun w' => w'.cell? ⟨gb255, 0, none⟩ = some (.int .i64 a1_0) ∧ w'.cell? ⟨gb255, 1, none⟩ = some (.int .u64 a1_1) ∧ w'.cell? ⟨gb255, 2, none⟩ = some (.slice (some ad257) l1_2.length c1_2) ∧ w'.cell? ⟨gb255, 3, none⟩ = some (.bool a1_3) ∧ w'.cell? ⟨gb255, 4, none⟩ = some (.int .i64 a1_4) ∧ w'.cell? ⟨gb256, 0, none⟩ = some (.int .i64 a2_0) ∧ w'.cell? ⟨gb256, 1, none⟩ = some (.int .i64 a2_1) ∧ w'.cell? ⟨gb256, 2, none⟩ = some (.int .u64 a2_2) ∧ w'.cell? ⟨gb256, 3, none⟩ = some (.int .i64 a2_3)) (ds := []) #[false, false, false, false, false, false] (by kernel_rfl) rfl rfl ⟨(bc_ BK255.out 0).trans rfl, (bc_ BK255.out 1).trans rfl, (bc_ BK255.out 2).trans rfl, (bc_ BK255.out 3).trans rfl, (bc_ BK255.out 4).trans rfl, (bc_ BK256.out 0).trans rfl, (bc_ BK256.out 1).trans rfl, (bc_ BK256.out 2).trans rfl, (bc_ BK256.out 3).trans rfl⟩ (fun hHeld => ?_)
      generalize w15.drew = w19 at BK255 BK256 HB hHeld ⊢
      refine pure_ (i := 2) (N := some 31) (v := ?_) (a' := ?_) #[false, false, true, false, false, false] rfl rfl (by kernel_rfl) (fun _ _ _ h => h) (Or.inl ⟨by rfl, ?_⟩) ?_ ?_
      rotate_left
      ·intro w'
       go_simp
       with_reducible rfl
      rotate_left
      ·simp only [Act.put, sa_, sz_, ss_, i64_w, i32_w]
       rfl
      refine take_ (i := 0) (N := some 29) (v := ?_) (a' := ?_) #[true, false, true, false, false, false] rfl rfl (by kernel_rfl) (fun _ _ _ h => h) (Or.inl ⟨by rfl, ?_⟩) hHeld ?_ ?_
      rotate_left
      ·rintro w' ⟨s0, s1, s2, s3, s4, s5, s6, s7, s8⟩
       go_simp
       with_reducible rfl
      rotate_left
      ·simp only [Act.put, sa_, sz_, ss_, i64_w, i32_w]
       rfl
      refine take_ (i := 3) (N := some 32) (v := ?_) (a' := ?_) #[true, false, true, true, false, false] rfl rfl (by kernel_rfl) (fun _ _ _ h => h) (Or.inl ⟨by rfl, ?_⟩) hHeld ?_ ?_
      rotate_left
      ·rintro w' ⟨s0, s1, s2, s3, s4, s5, s6, s7, s8⟩
       go_simp
       with_reducible rfl
      rotate_left
      ·simp only [Act.put, sa_, sz_, ss_, i64_w, i32_w]
       rfl
      refine one_ (i := 1) (N := some 30) #[true, true, true, true, false, false] rfl rfl (by kernel_rfl) (by decide) (fun K hK => ?_)
      refine goes_ Tryd.func69 (by kernel_rfl) rfl #[.agg #[.int .i64 a1_0, .int .u64 a1_1, .slice (some ad257) l1_2.length c1_2, .bool a1_3, .int .i64 a1_4]] (by rfl) rfl rfl (by (try simp only [List.map_toArray, List.map_cons, List.map_nil]); first | done | rfl | (simp only [List.length_drop, lt_]; rfl)) ?_
      with_reducible refine (catenaryref09_Stands.calls a1_0 a1_1 _ _ l1_2 a1_3 a1_4 t258 _ ?side1 ?side2 A8.out).mono ?_
      (case side1 => repeat (first | exact (Kd.C_below HR1_2.out HB.out) | (with_reducible refine Kd.C_alloc ?_ _) | (with_reducible refine Kd.C_drewN ?_ _) | (with_reducible refine Kd.C_drew ?_)))
      (case side2 => exact HC1_2.out)
      rintro e w20 ⟨v259, rfl, ho0, hb⟩
      refine ⟨_, rfl, ?_⟩
      have n0_ := am_ (Kd.R_lower ho0 (bs_ (by repeat (first | (with_reducible first | exact HB.out | apply ba_ | apply bn_ | apply bd_ | refine be_ ?_ GE255.out | refine be_ ?_ GE256.out) | exact HB.out))))
      have n1_ := am_ (blk_below (g := gb255) (o := .cells #[.int .i64 a1_0, .int .u64 a1_1, .slice (some ad257) l1_2.length c1_2, .bool a1_3, .int .i64 a1_4] 54 (0, 0)) (by (with_reducible repeat (first | refine bw_ ?_ _ | refine bx_ ?_ | refine bl_ ?_ _)); exact BK255.out) hb)
      have n2_ := am_ (blk_below (g := gb256) (o := .cells #[.int .i64 a2_0, .int .i64 a2_1, .int .u64 a2_2, .int .i64 a2_3] 24 (0, 0)) (by (with_reducible repeat (first | refine bw_ ?_ _ | refine bx_ ?_ | refine bl_ ?_ _)); exact BK256.out) hb)
      have n3_ := am_ (bt_ (by repeat (first | (with_reducible first | exact HB.out | apply ba_ | apply bn_ | apply bd_ | refine be_ ?_ GE255.out | refine be_ ?_ GE256.out) | exact HB.out)) hb)
      clear BK255
      clear BK256
      clear HB
      have HO260 := n0_
      have BK255 := n1_
      have BK256 := n2_
      have HB := n3_
      clear n0_ n1_ n2_ n3_
      (try clear hb)
      (try clear hb2)
      (try clear hk)
      (try clear hi)
      (try clear ho0)
      obtain ⟨Ao21, co21, eo21⟩ := Kd.R_slice HO260.out
      (first | subst eo21 | (injection eo21 with f1_ f2_ f3_; have f4_ := f1_.symm; have f5_ := f3_.symm; clear f1_ f2_ f3_; subst f4_; subst f5_))
      refine hK.out _ _ ⟨(bc_ BK255.out 0).trans rfl, (bc_ BK255.out 1).trans rfl, (bc_ BK255.out 2).trans rfl, (bc_ BK255.out 3).trans rfl, (bc_ BK255.out 4).trans rfl, (bc_ BK256.out 0).trans rfl, (bc_ BK256.out 1).trans rfl, (bc_ BK256.out 2).trans rfl, (bc_ BK256.out 3).trans rfl⟩ (fun hHeld => ?_)
      clear hK K
      refine norm_ (a' := ?_) ?_ ?_
      rotate_left
      ·show Act.put _ (some 30) _ = _
       simp only [Act.put, sa_, sz_, ss_, i64_w, i32_w]
       rfl
      refine one_ (i := 4) (N := some 33) #[true, true, true, true, true, false] rfl rfl (by kernel_rfl) (by decide) (fun K hK => ?_)
      refine goes_ Tryd.func74 (by kernel_rfl) rfl #[.slice Ao21 t258.length co21, .int .i64 a2_3] (by rfl) rfl rfl (by (try simp only [List.map_toArray, List.map_cons, List.map_nil]); first | done | rfl | (simp only [List.length_drop, lt_]; rfl)) ?_
      with_reducible refine (catenaryref04_Has.calls k _ _ t258 a2_3 true _ ?side1 ?side2 A9.out).mono ?_
      (case side1 => repeat (first | exact (Kd.R_reads' HO260.out).2.2 | (with_reducible refine Kd.C_alloc ?_ _) | (with_reducible refine Kd.C_drewN ?_ _) | (with_reducible refine Kd.C_drew ?_)))
      (case side2 => exact (Kd.R_reads' HO260.out).2.1)
      rintro e w' ⟨rfl, ⟨nd, rfl⟩⟩
      refine ⟨_, rfl, ?_⟩
      refine hK.out _ _ ⟨(bc_ BK255.out 0).trans rfl, (bc_ BK255.out 1).trans rfl, (bc_ BK255.out 2).trans rfl, (bc_ BK255.out 3).trans rfl, (bc_ BK255.out 4).trans rfl, (bc_ BK256.out 0).trans rfl, (bc_ BK256.out 1).trans rfl, (bc_ BK256.out 2).trans rfl, (bc_ BK256.out 3).trans rfl⟩ (fun hHeld => ?_)
      clear hK K
      refine norm_ (a' := ?_) ?_ ?_
      rotate_left
      ·show Act.put _ (some 33) _ = _
       simp only [Act.put, sa_, sz_, ss_, i64_w, i32_w]
       rfl
      refine pure_ (i := 5) (N := some 34) (v := ?_) (a' := ?_) #[true, true, true, true, true, true] rfl rfl (by kernel_rfl) (fun _ _ _ h => h) (Or.inl ⟨by rfl, ?_⟩) ?_ ?_
      rotate_left
      ·intro w'
       go_simp
       with_reducible rfl
      rotate_left
      ·simp only [Act.put, sa_, sz_, ss_, i64_w, i32_w]
       rfl
      refine done_ (by kernel_rfl) ?_
      try go_wp2
      (try (rw [drewN_self w20]; generalize hq_ : World.drewN w20 _ = w20; have n0_ : Aside0 (Kd.R (Kd.int .i64) 3 w20 w.heap.size (fun _ => True) (.slice Ao21 t258.length co21) t258) := ⟨by rw [← hq_]; exact (by (with_reducible repeat (first | apply Kd.R_alloc | apply Kd.R_drewN | apply Kd.R_drew)); exact HO260.out)⟩; have n1_ : Aside0 (w20.heap[gb255]? = some (.cells #[.int .i64 a1_0, .int .u64 a1_1, .slice (some ad257) l1_2.length c1_2, .bool a1_3, .int .i64 a1_4] 54 (0, 0))) := ⟨by rw [← hq_]; exact (by (with_reducible repeat (first | refine bw_ ?_ _ | refine bx_ ?_ | refine bl_ ?_ _)); exact BK255.out)⟩; have n2_ : Aside0 (w20.heap[gb256]? = some (.cells #[.int .i64 a2_0, .int .i64 a2_1, .int .u64 a2_2, .int .i64 a2_3] 24 (0, 0))) := ⟨by rw [← hq_]; exact (by (with_reducible repeat (first | refine bw_ ?_ _ | refine bx_ ?_ | refine bl_ ?_ _)); exact BK256.out)⟩; have n3_ : Aside0 (Below w.heap.size w w20) := ⟨by rw [← hq_]; exact (by repeat (first | (with_reducible first | exact HB.out | apply ba_ | apply bn_ | apply bd_ | refine be_ ?_ GE255.out | refine be_ ?_ GE256.out) | exact HB.out))⟩; clear HO260 BK255 BK256 HB hq_; have HO260 := n0_; have BK255 := n1_; have BK256 := n2_; have HB := n3_; clear n0_ n1_ n2_ n3_))
      have n0_ := am_ (Kd.R_drew HO260.out)
      have n1_ := am_ (bx_ BK255.out)
      have n2_ := am_ (bx_ BK256.out)
      have n3_ := am_ (bd_ HB.out)
      clear HO260
      clear BK255
      clear BK256
      clear HB
      have HO260 := n0_
      have BK255 := n1_
      have BK256 := n2_
      have HB := n3_
      clear n0_ n1_ n2_ n3_
      refine start_ (n := 7) (S := fun w' => w'.cell? ⟨gb255, 0, none⟩ = some (.int .i64 a1_0) ∧ w'.cell? ⟨gb255, 1, none⟩ = some (.int .u64 a1_1) ∧ w'.cell? ⟨gb255, 2, none⟩ = some (.slice (some ad257) l1_2.length c1_2) ∧ w'.cell? ⟨gb255, 3, none⟩ = some (.bool a1_3) ∧ w'.cell? ⟨gb255, 4, none⟩ = some (.int .i64 a1_4) ∧ w'.cell? ⟨gb256, 0, none⟩ = some (.int .i64 a2_0) ∧ w'.cell? ⟨gb256, 1, none⟩ = some (.int .i64 a2_1) ∧ w'.cell? ⟨gb256, 2, none⟩ = some (.int .u64 a2_2) ∧ w'.cell? ⟨gb256, 3, none⟩ = some (.int .i64 a2_3)) (ds := []) #[false, false, false, false, false, false, false] (by kernel_rfl) rfl rfl ⟨(bc_ BK255.out 0).trans rfl, (bc_ BK255.out 1).trans rfl, (bc_ BK255.out 2).trans rfl, (bc_ BK255.out 3).trans rfl, (bc_ BK255.out 4).trans rfl, (bc_ BK256.out 0).trans rfl, (bc_ BK256.out 1).trans rfl, (bc_ BK256.out 2).trans rfl, (bc_ BK256.out 3).trans rfl⟩ (fun hHeld => ?_)
      generalize w20.drew = w22 at HO260 BK255 BK256 HB hHeld ⊢
      refine pure_ (i := 2) (N := some 37) (v := ?_) (a' := ?_) #[false, false, true, false, false, false, false] rfl rfl (by kernel_rfl) (fun _ _ _ h => h) (Or.inl ⟨by rfl, ?_⟩) ?_ ?_
      rotate_left
      ·intro w'
       go_simp
       with_reducible rfl
      rotate_left
      ·simp only [Act.put, sa_, sz_, ss_, i64_w, i32_w]
       rfl
      refine take_ (i := 0) (N := some 35) (v := ?_) (a' := ?_) #[true, false, true, false, false, false, false] rfl rfl (by kernel_rfl) (fun _ _ _ h => h) (Or.inl ⟨by rfl, ?_⟩) hHeld ?_ ?_
      rotate_left
      ·rintro w' ⟨s0, s1, s2, s3, s4, s5, s6, s7, s8⟩
       go_simp
       with_reducible rfl
      rotate_left
      ·simp only [Act.put, sa_, sz_, ss_, i64_w, i32_w]
       rfl
      refine take_ (i := 3) (N := some 38) (v := ?_) (a' := ?_) #[true, false, true, true, false, false, false] rfl rfl (by kernel_rfl) (fun _ _ _ h => h) (Or.inl ⟨by rfl, ?_⟩) hHeld ?_ ?_
      rotate_left
      ·rintro w' ⟨s0, s1, s2, s3, s4, s5, s6, s7, s8⟩
       go_simp
       with_reducible rfl
      rotate_left
      ·simp only [Act.put, sa_, sz_, ss_, i64_w, i32_w]
       rfl
      refine one_ (i := 1) (N := some 36) #[true, true, true, true, false, false, false] rfl rfl (by kernel_rfl) (by decide) (fun K hK => ?_)
      refine goes_ Tryd.func37 (by kernel_rfl) rfl #[.agg #[.int .i64 a1_0, .int .u64 a1_1, .slice (some ad257) l1_2.length c1_2, .bool a1_3, .int .i64 a1_4]] (by rfl) rfl rfl (by (try simp only [List.map_toArray, List.map_cons, List.map_nil]); first | done | rfl | (simp only [List.length_drop, lt_]; rfl)) ?_
      with_reducible refine (catenaryref09_Settled.calls k a1_0 a1_1 (fun k_ => k_ < w.heap.size) _ _ l1_2 a1_3 a1_4 t262 _ ?side1 A11.out).mono ?_
      (case side1 => exact Kd.V_mk HC1_2.out (Kd.F_below (Kd.C_F (Kd.heap_int .i64) HR1_2.out) (by repeat (first | (with_reducible first | exact HB.out | apply ba_ | apply bn_ | apply bd_ | refine be_ ?_ GE255.out | refine be_ ?_ GE256.out) | exact HB.out))))
      rintro e w23 ⟨v263, rfl, ho0, hb⟩
      refine ⟨_, rfl, ?_⟩
      have n0_ := am_ (Kd.R_below (by (with_reducible repeat (first | apply Kd.R_alloc | apply Kd.R_drewN | apply Kd.R_drew)); exact HO260.out) hb)
      have n1_ := am_ (Kd.V_lower (Kd.V_mono (ok' := fun k_ => some k_ ≠ (.slice Ao21 t258.length co21 : Value).ownBlock ∧ k_ ≠ gb255 ∧ k_ ≠ gb256) ho0 (fun k_ hk_ => ⟨Or.elim hk_ (fun hs_ => fun e_ => Nat.not_le.2 hs_ (Kd.R_base HO260.out k_ e_.symm)) (fun hn_ => (Kd.fresh' (Kd.R_lt (by (with_reducible repeat (first | apply Kd.R_alloc | apply Kd.R_drewN | apply Kd.R_drew)); exact HO260.out)) k_ hn_)), Or.elim hk_ (fun hs_ => fun e_ => Nat.not_le.2 hs_ (by rw [e_]; exact GW255.out)) (fun hn_ => (Kd.freshB (g := gb255) (o := .cells #[.int .i64 a1_0, .int .u64 a1_1, .slice (some ad257) l1_2.length c1_2, .bool a1_3, .int .i64 a1_4] 54 (0, 0)) (by (with_reducible repeat (first | refine bw_ ?_ _ | refine bx_ ?_ | refine bl_ ?_ _)); exact BK255.out) k_ hn_)), Or.elim hk_ (fun hs_ => fun e_ => Nat.not_le.2 hs_ (by rw [e_]; exact GW256.out)) (fun hn_ => (Kd.freshB (g := gb256) (o := .cells #[.int .i64 a2_0, .int .i64 a2_1, .int .u64 a2_2, .int .i64 a2_3] 24 (0, 0)) (by (with_reducible repeat (first | refine bw_ ?_ _ | refine bx_ ?_ | refine bl_ ?_ _)); exact BK256.out) k_ hn_))⟩)) (bs_ (by repeat (first | (with_reducible first | exact HB.out | apply ba_ | apply bn_ | apply bd_ | refine be_ ?_ GE255.out | refine be_ ?_ GE256.out) | exact HB.out))))
      have n2_ := am_ (blk_below (g := gb255) (o := .cells #[.int .i64 a1_0, .int .u64 a1_1, .slice (some ad257) l1_2.length c1_2, .bool a1_3, .int .i64 a1_4] 54 (0, 0)) (by (with_reducible repeat (first | refine bw_ ?_ _ | refine bx_ ?_ | refine bl_ ?_ _)); exact BK255.out) hb)
      have n3_ := am_ (blk_below (g := gb256) (o := .cells #[.int .i64 a2_0, .int .i64 a2_1, .int .u64 a2_2, .int .i64 a2_3] 24 (0, 0)) (by (with_reducible repeat (first | refine bw_ ?_ _ | refine bx_ ?_ | refine bl_ ?_ _)); exact BK256.out) hb)
      have n4_ := am_ (bt_ (by repeat (first | (with_reducible first | exact HB.out | apply ba_ | apply bn_ | apply bd_ | refine be_ ?_ GE255.out | refine be_ ?_ GE256.out) | exact HB.out)) hb)
      clear HO260
      clear BK255
      clear BK256
      clear HB
      have HO260 := n0_
      have HO264 := n1_
      have BK255 := n2_
      have BK256 := n3_
      have HB := n4_
      clear n0_ n1_ n2_ n3_ n4_
      (try clear hb)
      (try clear hb2)
      (try clear hk)
      (try clear hi)
      (try clear ho0)
      obtain ⟨Ao24, co24, eo24⟩ := Kd.V_slice HO264.out
      (first | subst eo24 | (injection eo24 with f1_ f2_ f3_; have f4_ := f1_.symm; have f5_ := f3_.symm; clear f1_ f2_ f3_; subst f4_; subst f5_))
      refine hK.out _ _ ⟨(bc_ BK255.out 0).trans rfl, (bc_ BK255.out 1).trans rfl, (bc_ BK255.out 2).trans rfl, (bc_ BK255.out 3).trans rfl, (bc_ BK255.out 4).trans rfl, (bc_ BK256.out 0).trans rfl, (bc_ BK256.out 1).trans rfl, (bc_ BK256.out 2).trans rfl, (bc_ BK256.out 3).trans rfl⟩ (fun hHeld => ?_)
      clear hK K
      refine norm_ (a' := ?_) ?_ ?_
      rotate_left
      ·show Act.put _ (some 36) _ = _
       simp only [Act.put, sa_, sz_, ss_, i64_w, i32_w]
       rfl
      refine one_ (i := 4) (N := some 39) #[true, true, true, true, true, false, false] rfl rfl (by kernel_rfl) (by decide) (fun K hK => ?_)
      refine goes_ Tryd.func102 (by kernel_rfl) rfl #[.slice Ao24 t262.length co24, .int .i64 a2_3] (by rfl) rfl rfl (by (try simp only [List.map_toArray, List.map_cons, List.map_nil]); first | done | rfl | (simp only [List.length_drop, lt_]; rfl)) ?_
      with_reducible refine (catenaryref04_Without.calls k _ _ t262 a2_3 t265 _ ?side1 ?side2 A12.out).mono ?_
      (case side1 => repeat (first | exact (Kd.V_reads' HO264.out).2.2 | (with_reducible refine Kd.C_alloc ?_ _) | (with_reducible refine Kd.C_drewN ?_ _) | (with_reducible refine Kd.C_drew ?_)))
      (case side2 => exact (Kd.V_reads' HO264.out).2.1)
      rintro e w25 ⟨v266, rfl, ho0, hb⟩
      refine ⟨_, rfl, ?_⟩
      have n0_ := am_ (Kd.R_elder' (by (with_reducible repeat (first | apply Kd.R_alloc | apply Kd.R_drewN | apply Kd.R_drew)); exact HO260.out) (Kd.R_base ho0) hb)
      have n1_ := am_ (Kd.V_elder' (by (with_reducible repeat (first | apply Kd.V_alloc | apply Kd.V_drewN | apply Kd.V_drew)); exact HO264.out) (Kd.R_base ho0) hb)
      have n2_ := am_ (Kd.R_lower (Kd.R_new' ho0 (Kd.R_lt (by (with_reducible repeat (first | apply Kd.R_alloc | apply Kd.R_drewN | apply Kd.R_drew)); exact HO260.out))) (bs_ (by repeat (first | (with_reducible first | exact HB.out | apply ba_ | apply bn_ | apply bd_ | refine be_ ?_ GE255.out | refine be_ ?_ GE256.out) | exact HB.out))))
      have n3_ := am_ (blk_below (g := gb255) (o := .cells #[.int .i64 a1_0, .int .u64 a1_1, .slice (some ad257) l1_2.length c1_2, .bool a1_3, .int .i64 a1_4] 54 (0, 0)) (by (with_reducible repeat (first | refine bw_ ?_ _ | refine bx_ ?_ | refine bl_ ?_ _)); exact BK255.out) hb)
      have n4_ := am_ (blk_below (g := gb256) (o := .cells #[.int .i64 a2_0, .int .i64 a2_1, .int .u64 a2_2, .int .i64 a2_3] 24 (0, 0)) (by (with_reducible repeat (first | refine bw_ ?_ _ | refine bx_ ?_ | refine bl_ ?_ _)); exact BK256.out) hb)
      have n5_ := am_ (bt_ (by repeat (first | (with_reducible first | exact HB.out | apply ba_ | apply bn_ | apply bd_ | refine be_ ?_ GE255.out | refine be_ ?_ GE256.out) | exact HB.out)) hb)
      clear HO260
      clear HO264
      clear BK255
      clear BK256
      clear HB
      have HO260 := n0_
      have HO264 := n1_
      have HO267 := n2_
      have BK255 := n3_
      have BK256 := n4_
      have HB := n5_
      clear n0_ n1_ n2_ n3_ n4_ n5_
      (try clear hb)
      (try clear hb2)
      (try clear hk)
      (try clear hi)
      (try clear ho0)
      obtain ⟨Ao26, co26, eo26⟩ := Kd.R_slice HO267.out
      (first | subst eo26 | (injection eo26 with f1_ f2_ f3_; have f4_ := f1_.symm; have f5_ := f3_.symm; clear f1_ f2_ f3_; subst f4_; subst f5_))
      refine hK.out _ _ ⟨(bc_ BK255.out 0).trans rfl, (bc_ BK255.out 1).trans rfl, (bc_ BK255.out 2).trans rfl, (bc_ BK255.out 3).trans rfl, (bc_ BK255.out 4).trans rfl, (bc_ BK256.out 0).trans rfl, (bc_ BK256.out 1).trans rfl, (bc_ BK256.out 2).trans rfl, (bc_ BK256.out 3).trans rfl⟩ (fun hHeld => ?_)
      clear hK K
      refine norm_ (a' := ?_) ?_ ?_
      rotate_left
      ·show Act.put _ (some 39) _ = _
       simp only [Act.put, sa_, sz_, ss_, i64_w, i32_w]
       rfl
      refine pure_ (i := 5) (N := some 40) (v := ?_) (a' := ?_) #[true, true, true, true, true, true, false] rfl rfl (by kernel_rfl) (fun _ _ _ h => h) (Or.inl ⟨by rfl, ?_⟩) ?_ ?_
      rotate_left
      ·intro w'
       go_simp
       with_reducible rfl
      rotate_left
      ·simp only [Act.put, sa_, sz_, ss_, i64_w, i32_w]
       rfl
      refine pure_ (i := 6) (N := some 41) (v := ?_) (a' := ?_) #[true, true, true, true, true, true, true] rfl rfl (by kernel_rfl) (fun _ _ _ h => h) (Or.inl ⟨by rfl, ?_⟩) ?_ ?_
      rotate_left
      ·intro w'
       go_simp
       with_reducible rfl
      rotate_left
      ·simp only [Act.put, sa_, sz_, ss_, i64_w, i32_w]
       rfl
      refine done_ (by kernel_rfl) ?_
      try go_wp2
      go_ret
      exact ⟨by first | rfl | (simp [errW_none, errW_some] <;> rfl) | (simp only [← hji4]; first | rfl | (simp [errW_none, errW_some] <;> rfl)) | (simp [*, errW_none, errW_some] <;> rfl), by repeat (first | (with_reducible first | exact HB.out | apply ba_ | apply bn_ | apply bd_ | refine be_ ?_ GE255.out | refine be_ ?_ GE256.out) | exact HB.out)⟩
     ·rw [if_neg c13] at H
      have c13b0 : ((t265.length : Int) == 0) = false := beq_eq_false_iff_ne.mpr c13
      have c13b1 : ((t265.length : Int) != 0) = true := bne_iff_ne.mpr c13
      have c13b2 : ¬ (t265 = []) := fun h_ => c13 (by rw [h_]; rfl)
      by_cases c27 : a1_1 = 18446744073709551615
      ·rw [if_pos c27] at H
       have c27b0 : (a1_1 == 18446744073709551615) = true := beq_iff_eq.mpr c27
       have c27b1 : (a1_1 != 18446744073709551615) = false := bne_eq_false_iff_eq.mpr c27
       clear c27
       obtain rfl := Option.some.inj H
       go_enter Tryd.func64, Tryd.ntmps64
       try go_wp2_with (first | ((with_reducible refine gate_dst (N := 4) rfl ?_); refine box_event ?hg (N := 4) ?hd (cs := #[.int .i64 a1_0, .int .u64 a1_1, .slice A1_2 l1_2.length c1_2, .bool a1_3, .int .i64 a1_4]) (t := 54) ?hr ?_; (case hd => rfl); (case hg => rfl); (case hr => first | (go_simp; done) | (go_simp; rfl)); intro gb255 hg w28 hbox hb; have n0_ := am_ (bt_ (by repeat (first | (with_reducible first | exact HB.out | apply ba_ | apply bn_ | apply bd_) | exact HB.out)) hb); have n1_ := am_ (hbox); have n2_ := am_ ((by rw [hg]; exact (bs_ (by repeat (first | (with_reducible first | exact HB.out | apply ba_ | apply bn_ | apply bd_) | exact HB.out))) : w.heap.size ≤ gb255)); have n3_ := am_ ((by rw [hg]; exact (bs_ (by repeat (first | (with_reducible first | exact HB.out | apply ba_ | apply bn_ | apply bd_) | exact HB.out))) : w.heap.size ≤ gb255)); clear HB; have HB := n0_; have BK255 := n1_; have GW255 := n2_; have GE255 := n3_; clear n0_ n1_ n2_ n3_; clear hb hbox hg) | ((with_reducible refine gate_dst (N := 5) rfl ?_); refine box_event ?hg (N := 5) ?hd (cs := #[.int .i64 a2_0, .int .i64 a2_1, .int .u64 a2_2, .int .i64 a2_3]) (t := 24) ?hr ?_; (case hd => rfl); (case hg => rfl); (case hr => first | (go_simp; done) | (go_simp; rfl)); intro gb256 hg w29 hbox hb; have n0_ := am_ (blk_below (g := gb255) (o := .cells #[.int .i64 a1_0, .int .u64 a1_1, .slice A1_2 l1_2.length c1_2, .bool a1_3, .int .i64 a1_4] 54 (0, 0)) (by (with_reducible repeat (first | refine bw_ ?_ _ | refine bx_ ?_ | refine bl_ ?_ _)); exact BK255.out) hb); have n1_ := am_ (bt_ (by repeat (first | (with_reducible first | exact HB.out | apply ba_ | apply bn_ | apply bd_ | refine be_ ?_ GE255.out) | exact HB.out)) hb); have n2_ := am_ (hbox); have n3_ := am_ ((by rw [hg]; exact (bs_ (by repeat (first | (with_reducible first | exact HB.out | apply ba_ | apply bn_ | apply bd_ | refine be_ ?_ GE255.out) | exact HB.out))) : w.heap.size ≤ gb256)); have n4_ := am_ ((by rw [hg]; exact (bs_ (by repeat (first | (with_reducible first | exact HB.out | apply ba_ | apply bn_ | apply bd_ | refine be_ ?_ GE255.out) | exact HB.out))) : w.heap.size ≤ gb256)); have n5_ := am_ ((by rw [hg]; exact Nat.ne_of_lt (blk_lt (g := gb255) (o := .cells #[.int .i64 a1_0, .int .u64 a1_1, .slice A1_2 l1_2.length c1_2, .bool a1_3, .int .i64 a1_4] 54 (0, 0)) (by (with_reducible repeat (first | refine bw_ ?_ _ | refine bx_ ?_ | refine bl_ ?_ _)); exact BK255.out)) : gb255 ≠ gb256)); have n6_ := am_ ((by rw [hg]; exact Nat.ne_of_gt (blk_lt (g := gb255) (o := .cells #[.int .i64 a1_0, .int .u64 a1_1, .slice A1_2 l1_2.length c1_2, .bool a1_3, .int .i64 a1_4] 54 (0, 0)) (by (with_reducible repeat (first | refine bw_ ?_ _ | refine bx_ ?_ | refine bl_ ?_ _)); exact BK255.out)) : gb256 ≠ gb255)); clear BK255; clear HB; have BK255 := n0_; have HB := n1_; have BK256 := n2_; have GW256 := n3_; have GE256 := n4_; have NB255_256 := n5_; have NB256_255 := n6_; clear n0_ n1_ n2_ n3_ n4_ n5_ n6_; clear hb hbox hg; have hnb30 := NB255_256.out; have hnc30 := NB256_255.out; have hcz31_0 : w29.cell? ⟨gb255, 0, none⟩ = some (.int .i64 a1_0) := (bc_ BK255.out 0).trans rfl; have hcz31_1 : w29.cell? ⟨gb255, 1, none⟩ = some (.int .u64 a1_1) := (bc_ BK255.out 1).trans rfl; have hcz31_2 : w29.cell? ⟨gb255, 2, none⟩ = some (.slice A1_2 l1_2.length c1_2) := (bc_ BK255.out 2).trans rfl; have hcz31_3 : w29.cell? ⟨gb255, 3, none⟩ = some (.bool a1_3) := (bc_ BK255.out 3).trans rfl; have hcz31_4 : w29.cell? ⟨gb255, 4, none⟩ = some (.int .i64 a1_4) := (bc_ BK255.out 4).trans rfl; have hfz31_0 := bf_ BK255.out 0; have hfz31_1 := bf_ BK255.out 1; have hfz31_2 := bf_ BK255.out 2; have hfz31_3 := bf_ BK255.out 3; have hfz31_4 := bf_ BK255.out 4; have p257 : 0 ≤ ((ji4) : Int) := od_ (by first | (with_reducible assumption) | assumption); have q257 : (ji4) < (l1_2.length : Int) := od_ (by first | (with_reducible assumption) | assumption); obtain ⟨ad257, e257, hx257_0⟩ := Kd.at_int HR1_2.out (ji4) p257 q257; cases e257; replace hx257_0 := (HB.out.cell (cl_ w _ hx257_0)).trans hx257_0; replace p257 := eq_true p257; replace q257 := eq_true q257; have hcz32_0 : w29.cell? ⟨gb256, 0, none⟩ = some (.int .i64 a2_0) := (bc_ BK256.out 0).trans rfl; have hcz32_1 : w29.cell? ⟨gb256, 1, none⟩ = some (.int .i64 a2_1) := (bc_ BK256.out 1).trans rfl; have hcz32_2 : w29.cell? ⟨gb256, 2, none⟩ = some (.int .u64 a2_2) := (bc_ BK256.out 2).trans rfl; have hcz32_3 : w29.cell? ⟨gb256, 3, none⟩ = some (.int .i64 a2_3) := (bc_ BK256.out 3).trans rfl; have hfz32_0 := bf_ BK256.out 0; have hfz32_1 := bf_ BK256.out 1; have hfz32_2 := bf_ BK256.out 2; have hfz32_3 := bf_ BK256.out 3))
       have n0_ := am_ (bx_ BK255.out)
       have n1_ := am_ (bx_ BK256.out)
       have n2_ := am_ (bd_ HB.out)
       clear BK255
       clear BK256
       clear HB
       have BK255 := n0_
       have BK256 := n1_
       have HB := n2_
       clear n0_ n1_ n2_
       refine start_ (n := 6) (S := fun w' => w'.cell? ⟨gb255, 0, none⟩ = some (.int .i64 a1_0) ∧ w'.cell? ⟨gb255, 1, none⟩ = some (.int .u64 a1_1) ∧ w'.cell? ⟨gb255, 2, none⟩ = some (.slice (some ad257) l1_2.length c1_2) ∧ w'.cell? ⟨gb255, 3, none⟩ = some (.bool a1_3) ∧ w'.cell? ⟨gb255, 4, none⟩ = some (.int .i64 a1_4) ∧ w'.cell? ⟨gb256, 0, none⟩ = some (.int .i64 a2_0) ∧ w'.cell? ⟨gb256, 1, none⟩ = some (.int .i64 a2_1) ∧ w'.cell? ⟨gb256, 2, none⟩ = some (.int .u64 a2_2) ∧ w'.cell? ⟨gb256, 3, none⟩ = some (.int .i64 a2_3)) (ds := []) #[false, false, false, false, false, false] (by kernel_rfl) rfl rfl ⟨(bc_ BK255.out 0).trans rfl, (bc_ BK255.out 1).trans rfl, (bc_ BK255.out 2).trans rfl, (bc_ BK255.out 3).trans rfl, (bc_ BK255.out 4).trans rfl, (bc_ BK256.out 0).trans rfl, (bc_ BK256.out 1).trans rfl, (bc_ BK256.out 2).trans rfl, (bc_ BK256.out 3).trans rfl⟩ (fun hHeld => ?_)
       generalize w29.drew = w33 at BK255 BK256 HB hHeld ⊢
       refine pure_ (i := 2) (N := some 31) (v := ?_) (a' := ?_) #[false, false, true, false, false, false] rfl rfl (by kernel_rfl) (fun _ _ _ h => h) (Or.inl ⟨by rfl, ?_⟩) ?_ ?_
       rotate_left
       ·intro w'
        go_simp
        with_reducible rfl
       rotate_left
       ·simp only [Act.put, sa_, sz_, ss_, i64_w, i32_w]
        rfl
       refine take_ (i := 0) (N := some 29) (v := ?_) (a' := ?_) #[true, false, true, false, false, false] rfl rfl (by kernel_rfl) (fun _ _ _ h => h) (Or.inl ⟨by rfl, ?_⟩) hHeld ?_ ?_
       rotate_left
       ·rintro w' ⟨s0, s1, s2, s3, s4, s5, s6, s7, s8⟩
        go_simp
        with_reducible rfl
       rotate_left
       ·simp only [Act.put, sa_, sz_, ss_, i64_w, i32_w]
        rfl
       refine take_ (i := 3) (N := some 32) (v := ?_) (a' := ?_) #[true, false, true, true, false, false] rfl rfl (by kernel_rfl) (fun _ _ _ h => h) (Or.inl ⟨by rfl, ?_⟩) hHeld ?_ ?_
       rotate_left
       ·rintro w' ⟨s0, s1, s2, s3, s4, s5, s6, s7, s8⟩
        go_simp
        with_reducible rfl
       rotate_left
       ·simp only [Act.put, sa_, sz_, ss_, i64_w, i32_w]
        rfl
       refine one_ (i := 1) (N := some 30) #[true, true, true, true, false, false] rfl rfl (by kernel_rfl) (by decide) (fun K hK => ?_)
       refine goes_ Tryd.func69 (by kernel_rfl) rfl #[.agg #[.int .i64 a1_0, .int .u64 a1_1, .slice (some ad257) l1_2.length c1_2, .bool a1_3, .int .i64 a1_4]] (by rfl) rfl rfl (by (try simp only [List.map_toArray, List.map_cons, List.map_nil]); first | done | rfl | (simp only [List.length_drop, lt_]; rfl)) ?_
       with_reducible refine (catenaryref09_Stands.calls a1_0 a1_1 _ _ l1_2 a1_3 a1_4 t258 _ ?side1 ?side2 A8.out).mono ?_
       (case side1 => repeat (first | exact (Kd.C_below HR1_2.out HB.out) | (with_reducible refine Kd.C_alloc ?_ _) | (with_reducible refine Kd.C_drewN ?_ _) | (with_reducible refine Kd.C_drew ?_)))
       (case side2 => exact HC1_2.out)
       rintro e w34 ⟨v259, rfl, ho0, hb⟩
       refine ⟨_, rfl, ?_⟩
       have n0_ := am_ (Kd.R_lower ho0 (bs_ (by repeat (first | (with_reducible first | exact HB.out | apply ba_ | apply bn_ | apply bd_ | refine be_ ?_ GE255.out | refine be_ ?_ GE256.out) | exact HB.out))))
       have n1_ := am_ (blk_below (g := gb255) (o := .cells #[.int .i64 a1_0, .int .u64 a1_1, .slice (some ad257) l1_2.length c1_2, .bool a1_3, .int .i64 a1_4] 54 (0, 0)) (by (with_reducible repeat (first | refine bw_ ?_ _ | refine bx_ ?_ | refine bl_ ?_ _)); exact BK255.out) hb)
       have n2_ := am_ (blk_below (g := gb256) (o := .cells #[.int .i64 a2_0, .int .i64 a2_1, .int .u64 a2_2, .int .i64 a2_3] 24 (0, 0)) (by (with_reducible repeat (first | refine bw_ ?_ _ | refine bx_ ?_ | refine bl_ ?_ _)); exact BK256.out) hb)
       have n3_ := am_ (bt_ (by repeat (first | (with_reducible first | exact HB.out | apply ba_ | apply bn_ | apply bd_ | refine be_ ?_ GE255.out | refine be_ ?_ GE256.out) | exact HB.out)) hb)
       clear BK255
       clear BK256
       clear HB
       have HO260 := n0_
       have BK255 := n1_
       have BK256 := n2_
       have HB := n3_
       clear n0_ n1_ n2_ n3_
       (try clear hb)
       (try clear hb2)
       (try clear hk)
       (try clear hi)
       (try clear ho0)
       obtain ⟨Ao35, co35, eo35⟩ := Kd.R_slice HO260.out
       (first | subst eo35 | (injection eo35 with f1_ f2_ f3_; have f4_ := f1_.symm; have f5_ := f3_.symm; clear f1_ f2_ f3_; subst f4_; subst f5_))
       refine hK.out _ _ ⟨(bc_ BK255.out 0).trans rfl, (bc_ BK255.out 1).trans rfl, (bc_ BK255.out 2).trans rfl, (bc_ BK255.out 3).trans rfl, (bc_ BK255.out 4).trans rfl, (bc_ BK256.out 0).trans rfl, (bc_ BK256.out 1).trans rfl, (bc_ BK256.out 2).trans rfl, (bc_ BK256.out 3).trans rfl⟩ (fun hHeld => ?_)
       clear hK K
       refine norm_ (a' := ?_) ?_ ?_
       rotate_left
       ·show Act.put _ (some 30) _ = _
        simp only [Act.put, sa_, sz_, ss_, i64_w, i32_w]
        rfl
       refine one_ (i := 4) (N := some 33) #[true, true, true, true, true, false] rfl rfl (by kernel_rfl) (by decide) (fun K hK => ?_)
       refine goes_ Tryd.func74 (by kernel_rfl) rfl #[.slice Ao35 t258.length co35, .int .i64 a2_3] (by rfl) rfl rfl (by (try simp only [List.map_toArray, List.map_cons, List.map_nil]); first | done | rfl | (simp only [List.length_drop, lt_]; rfl)) ?_
       with_reducible refine (catenaryref04_Has.calls k _ _ t258 a2_3 true _ ?side1 ?side2 A9.out).mono ?_
       (case side1 => repeat (first | exact (Kd.R_reads' HO260.out).2.2 | (with_reducible refine Kd.C_alloc ?_ _) | (with_reducible refine Kd.C_drewN ?_ _) | (with_reducible refine Kd.C_drew ?_)))
       (case side2 => exact (Kd.R_reads' HO260.out).2.1)
       rintro e w' ⟨rfl, ⟨nd, rfl⟩⟩
       refine ⟨_, rfl, ?_⟩
       refine hK.out _ _ ⟨(bc_ BK255.out 0).trans rfl, (bc_ BK255.out 1).trans rfl, (bc_ BK255.out 2).trans rfl, (bc_ BK255.out 3).trans rfl, (bc_ BK255.out 4).trans rfl, (bc_ BK256.out 0).trans rfl, (bc_ BK256.out 1).trans rfl, (bc_ BK256.out 2).trans rfl, (bc_ BK256.out 3).trans rfl⟩ (fun hHeld => ?_)
       clear hK K
       refine norm_ (a' := ?_) ?_ ?_
       rotate_left
       ·show Act.put _ (some 33) _ = _
        simp only [Act.put, sa_, sz_, ss_, i64_w, i32_w]
        rfl
       refine pure_ (i := 5) (N := some 34) (v := ?_) (a' := ?_) #[true, true, true, true, true, true] rfl rfl (by kernel_rfl) (fun _ _ _ h => h) (Or.inl ⟨by rfl, ?_⟩) ?_ ?_
       rotate_left
       ·intro w'
        go_simp
        with_reducible rfl
       rotate_left
       ·simp only [Act.put, sa_, sz_, ss_, i64_w, i32_w]
        rfl
       refine done_ (by kernel_rfl) ?_
       try go_wp2
       (try (rw [drewN_self w34]; generalize hq_ : World.drewN w34 _ = w34; have n0_ : Aside0 (Kd.R (Kd.int .i64) 3 w34 w.heap.size (fun _ => True) (.slice Ao35 t258.length co35) t258) := ⟨by rw [← hq_]; exact (by (with_reducible repeat (first | apply Kd.R_alloc | apply Kd.R_drewN | apply Kd.R_drew)); exact HO260.out)⟩; have n1_ : Aside0 (w34.heap[gb255]? = some (.cells #[.int .i64 a1_0, .int .u64 a1_1, .slice (some ad257) l1_2.length c1_2, .bool a1_3, .int .i64 a1_4] 54 (0, 0))) := ⟨by rw [← hq_]; exact (by (with_reducible repeat (first | refine bw_ ?_ _ | refine bx_ ?_ | refine bl_ ?_ _)); exact BK255.out)⟩; have n2_ : Aside0 (w34.heap[gb256]? = some (.cells #[.int .i64 a2_0, .int .i64 a2_1, .int .u64 a2_2, .int .i64 a2_3] 24 (0, 0))) := ⟨by rw [← hq_]; exact (by (with_reducible repeat (first | refine bw_ ?_ _ | refine bx_ ?_ | refine bl_ ?_ _)); exact BK256.out)⟩; have n3_ : Aside0 (Below w.heap.size w w34) := ⟨by rw [← hq_]; exact (by repeat (first | (with_reducible first | exact HB.out | apply ba_ | apply bn_ | apply bd_ | refine be_ ?_ GE255.out | refine be_ ?_ GE256.out) | exact HB.out))⟩; clear HO260 BK255 BK256 HB hq_; have HO260 := n0_; have BK255 := n1_; have BK256 := n2_; have HB := n3_; clear n0_ n1_ n2_ n3_))
       have n0_ := am_ (Kd.R_drew HO260.out)
       have n1_ := am_ (bx_ BK255.out)
       have n2_ := am_ (bx_ BK256.out)
       have n3_ := am_ (bd_ HB.out)
       clear HO260
       clear BK255
       clear BK256
       clear HB
       have HO260 := n0_
       have BK255 := n1_
       have BK256 := n2_
       have HB := n3_
       clear n0_ n1_ n2_ n3_
       refine start_ (n := 7) (S := fun w' => w'.cell? ⟨gb255, 0, none⟩ = some (.int .i64 a1_0) ∧ w'.cell? ⟨gb255, 1, none⟩ = some (.int .u64 a1_1) ∧ w'.cell? ⟨gb255, 2, none⟩ = some (.slice (some ad257) l1_2.length c1_2) ∧ w'.cell? ⟨gb255, 3, none⟩ = some (.bool a1_3) ∧ w'.cell? ⟨gb255, 4, none⟩ = some (.int .i64 a1_4) ∧ w'.cell? ⟨gb256, 0, none⟩ = some (.int .i64 a2_0) ∧ w'.cell? ⟨gb256, 1, none⟩ = some (.int .i64 a2_1) ∧ w'.cell? ⟨gb256, 2, none⟩ = some (.int .u64 a2_2) ∧ w'.cell? ⟨gb256, 3, none⟩ = some (.int .i64 a2_3)) (ds := []) #[false, false, false, false, false, false, false] (by kernel_rfl) rfl rfl ⟨(bc_ BK255.out 0).trans rfl, (bc_ BK255.out 1).trans rfl, (bc_ BK255.out 2).trans rfl, (bc_ BK255.out 3).trans rfl, (bc_ BK255.out 4).trans rfl, (bc_ BK256.out 0).trans rfl, (bc_ BK256.out 1).trans rfl, (bc_ BK256.out 2).trans rfl, (bc_ BK256.out 3).trans rfl⟩ (fun hHeld => ?_)
       generalize w34.drew = w36 at HO260 BK255 BK256 HB hHeld ⊢
       refine pure_ (i := 2) (N := some 37) (v := ?_) (a' := ?_) #[false, false, true, false, false, false, false] rfl rfl (by kernel_rfl) (fun _ _ _ h => h) (Or.inl ⟨by rfl, ?_⟩) ?_ ?_
       rotate_left
       ·intro w'
        go_simp
        with_reducible rfl
       rotate_left
       ·simp only [Act.put, sa_, sz_, ss_, i64_w, i32_w]
        rfl
       refine take_ (i := 0) (N := some 35) (v := ?_) (a' := ?_) #[true, false, true, false, false, false, false] rfl rfl (by kernel_rfl) (fun _ _ _ h => h) (Or.inl ⟨by rfl, ?_⟩) hHeld ?_ ?_
       rotate_left
       ·rintro w' ⟨s0, s1, s2, s3, s4, s5, s6, s7, s8⟩
        go_simp
        with_reducible rfl
       rotate_left
       ·simp only [Act.put, sa_, sz_, ss_, i64_w, i32_w]
        rfl
       refine take_ (i := 3) (N := some 38) (v := ?_) (a' := ?_) #[true, false, true, true, false, false, false] rfl rfl (by kernel_rfl) (fun _ _ _ h => h) (Or.inl ⟨by rfl, ?_⟩) hHeld ?_ ?_
       rotate_left
       ·rintro w' ⟨s0, s1, s2, s3, s4, s5, s6, s7, s8⟩
        go_simp
        with_reducible rfl
       rotate_left
       ·simp only [Act.put, sa_, sz_, ss_, i64_w, i32_w]
        rfl
       refine one_ (i := 1) (N := some 36) #[true, true, true, true, false, false, false] rfl rfl (by kernel_rfl) (by decide) (fun K hK => ?_)
       refine goes_ Tryd.func37 (by kernel_rfl) rfl #[.agg #[.int .i64 a1_0, .int .u64 a1_1, .slice (some ad257) l1_2.length c1_2, .bool a1_3, .int .i64 a1_4]] (by rfl) rfl rfl (by (try simp only [List.map_toArray, List.map_cons, List.map_nil]); first | done | rfl | (simp only [List.length_drop, lt_]; rfl)) ?_
       with_reducible refine (catenaryref09_Settled.calls k a1_0 a1_1 (fun k_ => k_ < w.heap.size) _ _ l1_2 a1_3 a1_4 t262 _ ?side1 A11.out).mono ?_
       (case side1 => exact Kd.V_mk HC1_2.out (Kd.F_below (Kd.C_F (Kd.heap_int .i64) HR1_2.out) (by repeat (first | (with_reducible first | exact HB.out | apply ba_ | apply bn_ | apply bd_ | refine be_ ?_ GE255.out | refine be_ ?_ GE256.out) | exact HB.out))))
       rintro e w37 ⟨v263, rfl, ho0, hb⟩
       refine ⟨_, rfl, ?_⟩
       have n0_ := am_ (Kd.R_below (by (with_reducible repeat (first | apply Kd.R_alloc | apply Kd.R_drewN | apply Kd.R_drew)); exact HO260.out) hb)
       have n1_ := am_ (Kd.V_lower (Kd.V_mono (ok' := fun k_ => some k_ ≠ (.slice Ao35 t258.length co35 : Value).ownBlock ∧ k_ ≠ gb255 ∧ k_ ≠ gb256) ho0 (fun k_ hk_ => ⟨Or.elim hk_ (fun hs_ => fun e_ => Nat.not_le.2 hs_ (Kd.R_base HO260.out k_ e_.symm)) (fun hn_ => (Kd.fresh' (Kd.R_lt (by (with_reducible repeat (first | apply Kd.R_alloc | apply Kd.R_drewN | apply Kd.R_drew)); exact HO260.out)) k_ hn_)), Or.elim hk_ (fun hs_ => fun e_ => Nat.not_le.2 hs_ (by rw [e_]; exact GW255.out)) (fun hn_ => (Kd.freshB (g := gb255) (o := .cells #[.int .i64 a1_0, .int .u64 a1_1, .slice (some ad257) l1_2.length c1_2, .bool a1_3, .int .i64 a1_4] 54 (0, 0)) (by (with_reducible repeat (first | refine bw_ ?_ _ | refine bx_ ?_ | refine bl_ ?_ _)); exact BK255.out) k_ hn_)), Or.elim hk_ (fun hs_ => fun e_ => Nat.not_le.2 hs_ (by rw [e_]; exact GW256.out)) (fun hn_ => (Kd.freshB (g := gb256) (o := .cells #[.int .i64 a2_0, .int .i64 a2_1, .int .u64 a2_2, .int .i64 a2_3] 24 (0, 0)) (by (with_reducible repeat (first | refine bw_ ?_ _ | refine bx_ ?_ | refine bl_ ?_ _)); exact BK256.out) k_ hn_))⟩)) (bs_ (by repeat (first | (with_reducible first | exact HB.out | apply ba_ | apply bn_ | apply bd_ | refine be_ ?_ GE255.out | refine be_ ?_ GE256.out) | exact HB.out))))
       have n2_ := am_ (blk_below (g := gb255) (o := .cells #[.int .i64 a1_0, .int .u64 a1_1, .slice (some ad257) l1_2.length c1_2, .bool a1_3, .int .i64 a1_4] 54 (0, 0)) (by (with_reducible repeat (first | refine bw_ ?_ _ | refine bx_ ?_ | refine bl_ ?_ _)); exact BK255.out) hb)
       have n3_ := am_ (blk_below (g := gb256) (o := .cells #[.int .i64 a2_0, .int .i64 a2_1, .int .u64 a2_2, .int .i64 a2_3] 24 (0, 0)) (by (with_reducible repeat (first | refine bw_ ?_ _ | refine bx_ ?_ | refine bl_ ?_ _)); exact BK256.out) hb)
       have n4_ := am_ (bt_ (by repeat (first | (with_reducible first | exact HB.out | apply ba_ | apply bn_ | apply bd_ | refine be_ ?_ GE255.out | refine be_ ?_ GE256.out) | exact HB.out)) hb)
       clear HO260
       clear BK255
       clear BK256
       clear HB
       have HO260 := n0_
       have HO264 := n1_
       have BK255 := n2_
       have BK256 := n3_
       have HB := n4_
       clear n0_ n1_ n2_ n3_ n4_
       (try clear hb)
       (try clear hb2)
       (try clear hk)
       (try clear hi)
       (try clear ho0)
       obtain ⟨Ao38, co38, eo38⟩ := Kd.V_slice HO264.out
       (first | subst eo38 | (injection eo38 with f1_ f2_ f3_; have f4_ := f1_.symm; have f5_ := f3_.symm; clear f1_ f2_ f3_; subst f4_; subst f5_))
       refine hK.out _ _ ⟨(bc_ BK255.out 0).trans rfl, (bc_ BK255.out 1).trans rfl, (bc_ BK255.out 2).trans rfl, (bc_ BK255.out 3).trans rfl, (bc_ BK255.out 4).trans rfl, (bc_ BK256.out 0).trans rfl, (bc_ BK256.out 1).trans rfl, (bc_ BK256.out 2).trans rfl, (bc_ BK256.out 3).trans rfl⟩ (fun hHeld => ?_)
       clear hK K
       refine norm_ (a' := ?_) ?_ ?_
       rotate_left
       ·show Act.put _ (some 36) _ = _
        simp only [Act.put, sa_, sz_, ss_, i64_w, i32_w]
        rfl
       refine one_ (i := 4) (N := some 39) #[true, true, true, true, true, false, false] rfl rfl (by kernel_rfl) (by decide) (fun K hK => ?_)
       refine goes_ Tryd.func102 (by kernel_rfl) rfl #[.slice Ao38 t262.length co38, .int .i64 a2_3] (by rfl) rfl rfl (by (try simp only [List.map_toArray, List.map_cons, List.map_nil]); first | done | rfl | (simp only [List.length_drop, lt_]; rfl)) ?_
       with_reducible refine (catenaryref04_Without.calls k _ _ t262 a2_3 t265 _ ?side1 ?side2 A12.out).mono ?_
       (case side1 => repeat (first | exact (Kd.V_reads' HO264.out).2.2 | (with_reducible refine Kd.C_alloc ?_ _) | (with_reducible refine Kd.C_drewN ?_ _) | (with_reducible refine Kd.C_drew ?_)))
       (case side2 => exact (Kd.V_reads' HO264.out).2.1)
       rintro e w39 ⟨v266, rfl, ho0, hb⟩
       refine ⟨_, rfl, ?_⟩
       have n0_ := am_ (Kd.R_elder' (by (with_reducible repeat (first | apply Kd.R_alloc | apply Kd.R_drewN | apply Kd.R_drew)); exact HO260.out) (Kd.R_base ho0) hb)
       have n1_ := am_ (Kd.V_elder' (by (with_reducible repeat (first | apply Kd.V_alloc | apply Kd.V_drewN | apply Kd.V_drew)); exact HO264.out) (Kd.R_base ho0) hb)
       have n2_ := am_ (Kd.R_lower (Kd.R_new' ho0 (Kd.R_lt (by (with_reducible repeat (first | apply Kd.R_alloc | apply Kd.R_drewN | apply Kd.R_drew)); exact HO260.out))) (bs_ (by repeat (first | (with_reducible first | exact HB.out | apply ba_ | apply bn_ | apply bd_ | refine be_ ?_ GE255.out | refine be_ ?_ GE256.out) | exact HB.out))))
       have n3_ := am_ (blk_below (g := gb255) (o := .cells #[.int .i64 a1_0, .int .u64 a1_1, .slice (some ad257) l1_2.length c1_2, .bool a1_3, .int .i64 a1_4] 54 (0, 0)) (by (with_reducible repeat (first | refine bw_ ?_ _ | refine bx_ ?_ | refine bl_ ?_ _)); exact BK255.out) hb)
       have n4_ := am_ (blk_below (g := gb256) (o := .cells #[.int .i64 a2_0, .int .i64 a2_1, .int .u64 a2_2, .int .i64 a2_3] 24 (0, 0)) (by (with_reducible repeat (first | refine bw_ ?_ _ | refine bx_ ?_ | refine bl_ ?_ _)); exact BK256.out) hb)
       have n5_ := am_ (bt_ (by repeat (first | (with_reducible first | exact HB.out | apply ba_ | apply bn_ | apply bd_ | refine be_ ?_ GE255.out | refine be_ ?_ GE256.out) | exact HB.out)) hb)
       clear HO260
       clear HO264
       clear BK255
       clear BK256
       clear HB
       have HO260 := n0_
       have HO264 := n1_
       have HO267 := n2_
       have BK255 := n3_
       have BK256 := n4_
       have HB := n5_
       clear n0_ n1_ n2_ n3_ n4_ n5_
       (try clear hb)
       (try clear hb2)
       (try clear hk)
       (try clear hi)
       (try clear ho0)
       obtain ⟨Ao40, co40, eo40⟩ := Kd.R_slice HO267.out
       (first | subst eo40 | (injection eo40 with f1_ f2_ f3_; have f4_ := f1_.symm; have f5_ := f3_.symm; clear f1_ f2_ f3_; subst f4_; subst f5_))
       refine hK.out _ _ ⟨(bc_ BK255.out 0).trans rfl, (bc_ BK255.out 1).trans rfl, (bc_ BK255.out 2).trans rfl, (bc_ BK255.out 3).trans rfl, (bc_ BK255.out 4).trans rfl, (bc_ BK256.out 0).trans rfl, (bc_ BK256.out 1).trans rfl, (bc_ BK256.out 2).trans rfl, (bc_ BK256.out 3).trans rfl⟩ (fun hHeld => ?_)
       clear hK K
       refine norm_ (a' := ?_) ?_ ?_
       rotate_left
       ·show Act.put _ (some 39) _ = _
        simp only [Act.put, sa_, sz_, ss_, i64_w, i32_w]
        rfl
       refine pure_ (i := 5) (N := some 40) (v := ?_) (a' := ?_) #[true, true, true, true, true, true, false] rfl rfl (by kernel_rfl) (fun _ _ _ h => h) (Or.inl ⟨by rfl, ?_⟩) ?_ ?_
       rotate_left
       ·intro w'
        go_simp
        with_reducible rfl
       rotate_left
       ·simp only [Act.put, sa_, sz_, ss_, i64_w, i32_w]
        rfl
       refine pure_ (i := 6) (N := some 41) (v := ?_) (a' := ?_) #[true, true, true, true, true, true, true] rfl rfl (by kernel_rfl) (fun _ _ _ h => h) (Or.inl ⟨by rfl, ?_⟩) ?_ ?_
       rotate_left
       ·intro w'
        go_simp
        with_reducible rfl
       rotate_left
       ·simp only [Act.put, sa_, sz_, ss_, i64_w, i32_w]
        rfl
       refine done_ (by kernel_rfl) ?_
       have hcz41_0 : w39.cell? ⟨gb255, 0, none⟩ = some (.int .i64 a1_0) := (bc_ BK255.out 0).trans rfl
       have hcz41_1 : w39.cell? ⟨gb255, 1, none⟩ = some (.int .u64 a1_1) := (bc_ BK255.out 1).trans rfl
       have hcz41_2 : w39.cell? ⟨gb255, 2, none⟩ = some (.slice (some ad257) l1_2.length c1_2) := (bc_ BK255.out 2).trans rfl
       have hcz41_3 : w39.cell? ⟨gb255, 3, none⟩ = some (.bool a1_3) := (bc_ BK255.out 3).trans rfl
       have hcz41_4 : w39.cell? ⟨gb255, 4, none⟩ = some (.int .i64 a1_4) := (bc_ BK255.out 4).trans rfl
       have hfz41_0 := bf_ BK255.out 0
       have hfz41_1 := bf_ BK255.out 1
       have hfz41_2 := bf_ BK255.out 2
       have hfz41_3 := bf_ BK255.out 3
       have hfz41_4 := bf_ BK255.out 4
       try go_wp2
       go_ret
       exact ⟨by first | rfl | (simp [errW_none, errW_some] <;> rfl) | (simp only [← hji4]; first | rfl | (simp [errW_none, errW_some] <;> rfl)) | (simp [*, errW_none, errW_some] <;> rfl), by repeat (first | (with_reducible first | exact HB.out | apply ba_ | apply bn_ | apply bd_ | refine be_ ?_ GE255.out | refine be_ ?_ GE256.out) | exact HB.out)⟩
      ·rw [if_neg c27] at H
       have c27b0 : (a1_1 == 18446744073709551615) = false := beq_eq_false_iff_ne.mpr c27
       have c27b1 : (a1_1 != 18446744073709551615) = true := bne_iff_ne.mpr c27
       obtain rfl := Option.some.inj H
       go_enter Tryd.func64, Tryd.ntmps64
       try go_wp2_with (first | ((with_reducible refine gate_dst (N := 4) rfl ?_); refine box_event ?hg (N := 4) ?hd (cs := #[.int .i64 a1_0, .int .u64 a1_1, .slice A1_2 l1_2.length c1_2, .bool a1_3, .int .i64 a1_4]) (t := 54) ?hr ?_; (case hd => rfl); (case hg => rfl); (case hr => first | (go_simp; done) | (go_simp; rfl)); intro gb255 hg w42 hbox hb; have n0_ := am_ (bt_ (by repeat (first | (with_reducible first | exact HB.out | apply ba_ | apply bn_ | apply bd_) | exact HB.out)) hb); have n1_ := am_ (hbox); have n2_ := am_ ((by rw [hg]; exact (bs_ (by repeat (first | (with_reducible first | exact HB.out | apply ba_ | apply bn_ | apply bd_) | exact HB.out))) : w.heap.size ≤ gb255)); have n3_ := am_ ((by rw [hg]; exact (bs_ (by repeat (first | (with_reducible first | exact HB.out | apply ba_ | apply bn_ | apply bd_) | exact HB.out))) : w.heap.size ≤ gb255)); clear HB; have HB := n0_; have BK255 := n1_; have GW255 := n2_; have GE255 := n3_; clear n0_ n1_ n2_ n3_; clear hb hbox hg) | ((with_reducible refine gate_dst (N := 5) rfl ?_); refine box_event ?hg (N := 5) ?hd (cs := #[.int .i64 a2_0, .int .i64 a2_1, .int .u64 a2_2, .int .i64 a2_3]) (t := 24) ?hr ?_; (case hd => rfl); (case hg => rfl); (case hr => first | (go_simp; done) | (go_simp; rfl)); intro gb256 hg w43 hbox hb; have n0_ := am_ (blk_below (g := gb255) (o := .cells #[.int .i64 a1_0, .int .u64 a1_1, .slice A1_2 l1_2.length c1_2, .bool a1_3, .int .i64 a1_4] 54 (0, 0)) (by (with_reducible repeat (first | refine bw_ ?_ _ | refine bx_ ?_ | refine bl_ ?_ _)); exact BK255.out) hb); have n1_ := am_ (bt_ (by repeat (first | (with_reducible first | exact HB.out | apply ba_ | apply bn_ | apply bd_ | refine be_ ?_ GE255.out) | exact HB.out)) hb); have n2_ := am_ (hbox); have n3_ := am_ ((by rw [hg]; exact (bs_ (by repeat (first | (with_reducible first | exact HB.out | apply ba_ | apply bn_ | apply bd_ | refine be_ ?_ GE255.out) | exact HB.out))) : w.heap.size ≤ gb256)); have n4_ := am_ ((by rw [hg]; exact (bs_ (by repeat (first | (with_reducible first | exact HB.out | apply ba_ | apply bn_ | apply bd_ | refine be_ ?_ GE255.out) | exact HB.out))) : w.heap.size ≤ gb256)); have n5_ := am_ ((by rw [hg]; exact Nat.ne_of_lt (blk_lt (g := gb255) (o := .cells #[.int .i64 a1_0, .int .u64 a1_1, .slice A1_2 l1_2.length c1_2, .bool a1_3, .int .i64 a1_4] 54 (0, 0)) (by (with_reducible repeat (first | refine bw_ ?_ _ | refine bx_ ?_ | refine bl_ ?_ _)); exact BK255.out)) : gb255 ≠ gb256)); have n6_ := am_ ((by rw [hg]; exact Nat.ne_of_gt (blk_lt (g := gb255) (o := .cells #[.int .i64 a1_0, .int .u64 a1_1, .slice A1_2 l1_2.length c1_2, .bool a1_3, .int .i64 a1_4] 54 (0, 0)) (by (with_reducible repeat (first | refine bw_ ?_ _ | refine bx_ ?_ | refine bl_ ?_ _)); exact BK255.out)) : gb256 ≠ gb255)); clear BK255; clear HB; have BK255 := n0_; have HB := n1_; have BK256 := n2_; have GW256 := n3_; have GE256 := n4_; have NB255_256 := n5_; have NB256_255 := n6_; clear n0_ n1_ n2_ n3_ n4_ n5_ n6_; clear hb hbox hg; have hnb44 := NB255_256.out; have hnc44 := NB256_255.out; have hcz45_0 : w43.cell? ⟨gb255, 0, none⟩ = some (.int .i64 a1_0) := (bc_ BK255.out 0).trans rfl; have hcz45_1 : w43.cell? ⟨gb255, 1, none⟩ = some (.int .u64 a1_1) := (bc_ BK255.out 1).trans rfl; have hcz45_2 : w43.cell? ⟨gb255, 2, none⟩ = some (.slice A1_2 l1_2.length c1_2) := (bc_ BK255.out 2).trans rfl; have hcz45_3 : w43.cell? ⟨gb255, 3, none⟩ = some (.bool a1_3) := (bc_ BK255.out 3).trans rfl; have hcz45_4 : w43.cell? ⟨gb255, 4, none⟩ = some (.int .i64 a1_4) := (bc_ BK255.out 4).trans rfl; have hfz45_0 := bf_ BK255.out 0; have hfz45_1 := bf_ BK255.out 1; have hfz45_2 := bf_ BK255.out 2; have hfz45_3 := bf_ BK255.out 3; have hfz45_4 := bf_ BK255.out 4; have p257 : 0 ≤ ((ji4) : Int) := od_ (by first | (with_reducible assumption) | assumption); have q257 : (ji4) < (l1_2.length : Int) := od_ (by first | (with_reducible assumption) | assumption); obtain ⟨ad257, e257, hx257_0⟩ := Kd.at_int HR1_2.out (ji4) p257 q257; cases e257; replace hx257_0 := (HB.out.cell (cl_ w _ hx257_0)).trans hx257_0; replace p257 := eq_true p257; replace q257 := eq_true q257; have hcz46_0 : w43.cell? ⟨gb256, 0, none⟩ = some (.int .i64 a2_0) := (bc_ BK256.out 0).trans rfl; have hcz46_1 : w43.cell? ⟨gb256, 1, none⟩ = some (.int .i64 a2_1) := (bc_ BK256.out 1).trans rfl; have hcz46_2 : w43.cell? ⟨gb256, 2, none⟩ = some (.int .u64 a2_2) := (bc_ BK256.out 2).trans rfl; have hcz46_3 : w43.cell? ⟨gb256, 3, none⟩ = some (.int .i64 a2_3) := (bc_ BK256.out 3).trans rfl; have hfz46_0 := bf_ BK256.out 0; have hfz46_1 := bf_ BK256.out 1; have hfz46_2 := bf_ BK256.out 2; have hfz46_3 := bf_ BK256.out 3))
       have n0_ := am_ (bx_ BK255.out)
       have n1_ := am_ (bx_ BK256.out)
       have n2_ := am_ (bd_ HB.out)
       clear BK255
       clear BK256
       clear HB
       have BK255 := n0_
       have BK256 := n1_
       have HB := n2_
       clear n0_ n1_ n2_
       refine start_ (n := 6) (S := fun w' => w'.cell? ⟨gb255, 0, none⟩ = some (.int .i64 a1_0) ∧ w'.cell? ⟨gb255, 1, none⟩ = some (.int .u64 a1_1) ∧ w'.cell? ⟨gb255, 2, none⟩ = some (.slice (some ad257) l1_2.length c1_2) ∧ w'.cell? ⟨gb255, 3, none⟩ = some (.bool a1_3) ∧ w'.cell? ⟨gb255, 4, none⟩ = some (.int .i64 a1_4) ∧ w'.cell? ⟨gb256, 0, none⟩ = some (.int .i64 a2_0) ∧ w'.cell? ⟨gb256, 1, none⟩ = some (.int .i64 a2_1) ∧ w'.cell? ⟨gb256, 2, none⟩ = some (.int .u64 a2_2) ∧ w'.cell? ⟨gb256, 3, none⟩ = some (.int .i64 a2_3)) (ds := []) #[false, false, false, false, false, false] (by kernel_rfl) rfl rfl ⟨(bc_ BK255.out 0).trans rfl, (bc_ BK255.out 1).trans rfl, (bc_ BK255.out 2).trans rfl, (bc_ BK255.out 3).trans rfl, (bc_ BK255.out 4).trans rfl, (bc_ BK256.out 0).trans rfl, (bc_ BK256.out 1).trans rfl, (bc_ BK256.out 2).trans rfl, (bc_ BK256.out 3).trans rfl⟩ (fun hHeld => ?_)
       generalize w43.drew = w47 at BK255 BK256 HB hHeld ⊢
       refine pure_ (i := 2) (N := some 31) (v := ?_) (a' := ?_) #[false, false, true, false, false, false] rfl rfl (by kernel_rfl) (fun _ _ _ h => h) (Or.inl ⟨by rfl, ?_⟩) ?_ ?_
       rotate_left
       ·intro w'
        go_simp
        with_reducible rfl
       rotate_left
       ·simp only [Act.put, sa_, sz_, ss_, i64_w, i32_w]
        rfl
       refine take_ (i := 0) (N := some 29) (v := ?_) (a' := ?_) #[true, false, true, false, false, false] rfl rfl (by kernel_rfl) (fun _ _ _ h => h) (Or.inl ⟨by rfl, ?_⟩) hHeld ?_ ?_
       rotate_left
       ·rintro w' ⟨s0, s1, s2, s3, s4, s5, s6, s7, s8⟩
        go_simp
        with_reducible rfl
       rotate_left
       ·simp only [Act.put, sa_, sz_, ss_, i64_w, i32_w]
        rfl
       refine take_ (i := 3) (N := some 32) (v := ?_) (a' := ?_) #[true, false, true, true, false, false] rfl rfl (by kernel_rfl) (fun _ _ _ h => h) (Or.inl ⟨by rfl, ?_⟩) hHeld ?_ ?_
       rotate_left
       ·rintro w' ⟨s0, s1, s2, s3, s4, s5, s6, s7, s8⟩
        go_simp
        with_reducible rfl
       rotate_left
       ·simp only [Act.put, sa_, sz_, ss_, i64_w, i32_w]
        rfl
       refine one_ (i := 1) (N := some 30) #[true, true, true, true, false, false] rfl rfl (by kernel_rfl) (by decide) (fun K hK => ?_)
       refine goes_ Tryd.func69 (by kernel_rfl) rfl #[.agg #[.int .i64 a1_0, .int .u64 a1_1, .slice (some ad257) l1_2.length c1_2, .bool a1_3, .int .i64 a1_4]] (by rfl) rfl rfl (by (try simp only [List.map_toArray, List.map_cons, List.map_nil]); first | done | rfl | (simp only [List.length_drop, lt_]; rfl)) ?_
       with_reducible refine (catenaryref09_Stands.calls a1_0 a1_1 _ _ l1_2 a1_3 a1_4 t258 _ ?side1 ?side2 A8.out).mono ?_
       (case side1 => repeat (first | exact (Kd.C_below HR1_2.out HB.out) | (with_reducible refine Kd.C_alloc ?_ _) | (with_reducible refine Kd.C_drewN ?_ _) | (with_reducible refine Kd.C_drew ?_)))
       (case side2 => exact HC1_2.out)
       rintro e w48 ⟨v259, rfl, ho0, hb⟩
       refine ⟨_, rfl, ?_⟩
       have n0_ := am_ (Kd.R_lower ho0 (bs_ (by repeat (first | (with_reducible first | exact HB.out | apply ba_ | apply bn_ | apply bd_ | refine be_ ?_ GE255.out | refine be_ ?_ GE256.out) | exact HB.out))))
       have n1_ := am_ (blk_below (g := gb255) (o := .cells #[.int .i64 a1_0, .int .u64 a1_1, .slice (some ad257) l1_2.length c1_2, .bool a1_3, .int .i64 a1_4] 54 (0, 0)) (by (with_reducible repeat (first | refine bw_ ?_ _ | refine bx_ ?_ | refine bl_ ?_ _)); exact BK255.out) hb)
       have n2_ := am_ (blk_below (g := gb256) (o := .cells #[.int .i64 a2_0, .int .i64 a2_1, .int .u64 a2_2, .int .i64 a2_3] 24 (0, 0)) (by (with_reducible repeat (first | refine bw_ ?_ _ | refine bx_ ?_ | refine bl_ ?_ _)); exact BK256.out) hb)
       have n3_ := am_ (bt_ (by repeat (first | (with_reducible first | exact HB.out | apply ba_ | apply bn_ | apply bd_ | refine be_ ?_ GE255.out | refine be_ ?_ GE256.out) | exact HB.out)) hb)
       clear BK255
       clear BK256
       clear HB
       have HO260 := n0_
       have BK255 := n1_
       have BK256 := n2_
       have HB := n3_
       clear n0_ n1_ n2_ n3_
       (try clear hb)
       (try clear hb2)
       (try clear hk)
       (try clear hi)
       (try clear ho0)
       obtain ⟨Ao49, co49, eo49⟩ := Kd.R_slice HO260.out
       (first | subst eo49 | (injection eo49 with f1_ f2_ f3_; have f4_ := f1_.symm; have f5_ := f3_.symm; clear f1_ f2_ f3_; subst f4_; subst f5_))
       refine hK.out _ _ ⟨(bc_ BK255.out 0).trans rfl, (bc_ BK255.out 1).trans rfl, (bc_ BK255.out 2).trans rfl, (bc_ BK255.out 3).trans rfl, (bc_ BK255.out 4).trans rfl, (bc_ BK256.out 0).trans rfl, (bc_ BK256.out 1).trans rfl, (bc_ BK256.out 2).trans rfl, (bc_ BK256.out 3).trans rfl⟩ (fun hHeld => ?_)
       clear hK K
       refine norm_ (a' := ?_) ?_ ?_
       rotate_left
       ·show Act.put _ (some 30) _ = _
        simp only [Act.put, sa_, sz_, ss_, i64_w, i32_w]
        rfl
       refine one_ (i := 4) (N := some 33) #[true, true, true, true, true, false] rfl rfl (by kernel_rfl) (by decide) (fun K hK => ?_)
       refine goes_ Tryd.func74 (by kernel_rfl) rfl #[.slice Ao49 t258.length co49, .int .i64 a2_3] (by rfl) rfl rfl (by (try simp only [List.map_toArray, List.map_cons, List.map_nil]); first | done | rfl | (simp only [List.length_drop, lt_]; rfl)) ?_
       with_reducible refine (catenaryref04_Has.calls k _ _ t258 a2_3 true _ ?side1 ?side2 A9.out).mono ?_
       (case side1 => repeat (first | exact (Kd.R_reads' HO260.out).2.2 | (with_reducible refine Kd.C_alloc ?_ _) | (with_reducible refine Kd.C_drewN ?_ _) | (with_reducible refine Kd.C_drew ?_)))
       (case side2 => exact (Kd.R_reads' HO260.out).2.1)
       rintro e w' ⟨rfl, ⟨nd, rfl⟩⟩
       refine ⟨_, rfl, ?_⟩
       refine hK.out _ _ ⟨(bc_ BK255.out 0).trans rfl, (bc_ BK255.out 1).trans rfl, (bc_ BK255.out 2).trans rfl, (bc_ BK255.out 3).trans rfl, (bc_ BK255.out 4).trans rfl, (bc_ BK256.out 0).trans rfl, (bc_ BK256.out 1).trans rfl, (bc_ BK256.out 2).trans rfl, (bc_ BK256.out 3).trans rfl⟩ (fun hHeld => ?_)
       clear hK K
       refine norm_ (a' := ?_) ?_ ?_
       rotate_left
       ·show Act.put _ (some 33) _ = _
        simp only [Act.put, sa_, sz_, ss_, i64_w, i32_w]
        rfl
       refine pure_ (i := 5) (N := some 34) (v := ?_) (a' := ?_) #[true, true, true, true, true, true] rfl rfl (by kernel_rfl) (fun _ _ _ h => h) (Or.inl ⟨by rfl, ?_⟩) ?_ ?_
       rotate_left
       ·intro w'
        go_simp
        with_reducible rfl
       rotate_left
       ·simp only [Act.put, sa_, sz_, ss_, i64_w, i32_w]
        rfl
       refine done_ (by kernel_rfl) ?_
       try go_wp2
       (try (rw [drewN_self w48]; generalize hq_ : World.drewN w48 _ = w48; have n0_ : Aside0 (Kd.R (Kd.int .i64) 3 w48 w.heap.size (fun _ => True) (.slice Ao49 t258.length co49) t258) := ⟨by rw [← hq_]; exact (by (with_reducible repeat (first | apply Kd.R_alloc | apply Kd.R_drewN | apply Kd.R_drew)); exact HO260.out)⟩; have n1_ : Aside0 (w48.heap[gb255]? = some (.cells #[.int .i64 a1_0, .int .u64 a1_1, .slice (some ad257) l1_2.length c1_2, .bool a1_3, .int .i64 a1_4] 54 (0, 0))) := ⟨by rw [← hq_]; exact (by (with_reducible repeat (first | refine bw_ ?_ _ | refine bx_ ?_ | refine bl_ ?_ _)); exact BK255.out)⟩; have n2_ : Aside0 (w48.heap[gb256]? = some (.cells #[.int .i64 a2_0, .int .i64 a2_1, .int .u64 a2_2, .int .i64 a2_3] 24 (0, 0))) := ⟨by rw [← hq_]; exact (by (with_reducible repeat (first | refine bw_ ?_ _ | refine bx_ ?_ | refine bl_ ?_ _)); exact BK256.out)⟩; have n3_ : Aside0 (Below w.heap.size w w48) := ⟨by rw [← hq_]; exact (by repeat (first | (with_reducible first | exact HB.out | apply ba_ | apply bn_ | apply bd_ | refine be_ ?_ GE255.out | refine be_ ?_ GE256.out) | exact HB.out))⟩; clear HO260 BK255 BK256 HB hq_; have HO260 := n0_; have BK255 := n1_; have BK256 := n2_; have HB := n3_; clear n0_ n1_ n2_ n3_))
       have n0_ := am_ (Kd.R_drew HO260.out)
       have n1_ := am_ (bx_ BK255.out)
       have n2_ := am_ (bx_ BK256.out)
       have n3_ := am_ (bd_ HB.out)
       clear HO260
       clear BK255
       clear BK256
       clear HB
       have HO260 := n0_
       have BK255 := n1_
       have BK256 := n2_
       have HB := n3_
       clear n0_ n1_ n2_ n3_
       refine start_ (n := 7) (S := fun w' => w'.cell? ⟨gb255, 0, none⟩ = some (.int .i64 a1_0) ∧ w'.cell? ⟨gb255, 1, none⟩ = some (.int .u64 a1_1) ∧ w'.cell? ⟨gb255, 2, none⟩ = some (.slice (some ad257) l1_2.length c1_2) ∧ w'.cell? ⟨gb255, 3, none⟩ = some (.bool a1_3) ∧ w'.cell? ⟨gb255, 4, none⟩ = some (.int .i64 a1_4) ∧ w'.cell? ⟨gb256, 0, none⟩ = some (.int .i64 a2_0) ∧ w'.cell? ⟨gb256, 1, none⟩ = some (.int .i64 a2_1) ∧ w'.cell? ⟨gb256, 2, none⟩ = some (.int .u64 a2_2) ∧ w'.cell? ⟨gb256, 3, none⟩ = some (.int .i64 a2_3)) (ds := []) #[false, false, false, false, false, false, false] (by kernel_rfl) rfl rfl ⟨(bc_ BK255.out 0).trans rfl, (bc_ BK255.out 1).trans rfl, (bc_ BK255.out 2).trans rfl, (bc_ BK255.out 3).trans rfl, (bc_ BK255.out 4).trans rfl, (bc_ BK256.out 0).trans rfl, (bc_ BK256.out 1).trans rfl, (bc_ BK256.out 2).trans rfl, (bc_ BK256.out 3).trans rfl⟩ (fun hHeld => ?_)
       generalize w48.drew = w50 at HO260 BK255 BK256 HB hHeld ⊢
       refine pure_ (i := 2) (N := some 37) (v := ?_) (a' := ?_) #[false, false, true, false, false, false, false] rfl rfl (by kernel_rfl) (fun _ _ _ h => h) (Or.inl ⟨by rfl, ?_⟩) ?_ ?_
       rotate_left
       ·intro w'
        go_simp
        with_reducible rfl
       rotate_left
       ·simp only [Act.put, sa_, sz_, ss_, i64_w, i32_w]
        rfl
       refine take_ (i := 0) (N := some 35) (v := ?_) (a' := ?_) #[true, false, true, false, false, false, false] rfl rfl (by kernel_rfl) (fun _ _ _ h => h) (Or.inl ⟨by rfl, ?_⟩) hHeld ?_ ?_
       rotate_left
       ·rintro w' ⟨s0, s1, s2, s3, s4, s5, s6, s7, s8⟩
        go_simp
        with_reducible rfl
       rotate_left
       ·simp only [Act.put, sa_, sz_, ss_, i64_w, i32_w]
        rfl
       refine take_ (i := 3) (N := some 38) (v := ?_) (a' := ?_) #[true, false, true, true, false, false, false] rfl rfl (by kernel_rfl) (fun _ _ _ h => h) (Or.inl ⟨by rfl, ?_⟩) hHeld ?_ ?_
       rotate_left
       ·rintro w' ⟨s0, s1, s2, s3, s4, s5, s6, s7, s8⟩
        go_simp
        with_reducible rfl
       rotate_left
       ·simp only [Act.put, sa_, sz_, ss_, i64_w, i32_w]
        rfl
       refine one_ (i := 1) (N := some 36) #[true, true, true, true, false, false, false] rfl rfl (by kernel_rfl) (by decide) (fun K hK => ?_)
       refine goes_ Tryd.func37 (by kernel_rfl) rfl #[.agg #[.int .i64 a1_0, .int .u64 a1_1, .slice (some ad257) l1_2.length c1_2, .bool a1_3, .int .i64 a1_4]] (by rfl) rfl rfl (by (try simp only [List.map_toArray, List.map_cons, List.map_nil]); first | done | rfl | (simp only [List.length_drop, lt_]; rfl)) ?_
       with_reducible refine (catenaryref09_Settled.calls k a1_0 a1_1 (fun k_ => k_ < w.heap.size) _ _ l1_2 a1_3 a1_4 t262 _ ?side1 A11.out).mono ?_
       (case side1 => exact Kd.V_mk HC1_2.out (Kd.F_below (Kd.C_F (Kd.heap_int .i64) HR1_2.out) (by repeat (first | (with_reducible first | exact HB.out | apply ba_ | apply bn_ | apply bd_ | refine be_ ?_ GE255.out | refine be_ ?_ GE256.out) | exact HB.out))))
       rintro e w51 ⟨v263, rfl, ho0, hb⟩
       refine ⟨_, rfl, ?_⟩
       have n0_ := am_ (Kd.R_below (by (with_reducible repeat (first | apply Kd.R_alloc | apply Kd.R_drewN | apply Kd.R_drew)); exact HO260.out) hb)
       have n1_ := am_ (Kd.V_lower (Kd.V_mono (ok' := fun k_ => some k_ ≠ (.slice Ao49 t258.length co49 : Value).ownBlock ∧ k_ ≠ gb255 ∧ k_ ≠ gb256) ho0 (fun k_ hk_ => ⟨Or.elim hk_ (fun hs_ => fun e_ => Nat.not_le.2 hs_ (Kd.R_base HO260.out k_ e_.symm)) (fun hn_ => (Kd.fresh' (Kd.R_lt (by (with_reducible repeat (first | apply Kd.R_alloc | apply Kd.R_drewN | apply Kd.R_drew)); exact HO260.out)) k_ hn_)), Or.elim hk_ (fun hs_ => fun e_ => Nat.not_le.2 hs_ (by rw [e_]; exact GW255.out)) (fun hn_ => (Kd.freshB (g := gb255) (o := .cells #[.int .i64 a1_0, .int .u64 a1_1, .slice (some ad257) l1_2.length c1_2, .bool a1_3, .int .i64 a1_4] 54 (0, 0)) (by (with_reducible repeat (first | refine bw_ ?_ _ | refine bx_ ?_ | refine bl_ ?_ _)); exact BK255.out) k_ hn_)), Or.elim hk_ (fun hs_ => fun e_ => Nat.not_le.2 hs_ (by rw [e_]; exact GW256.out)) (fun hn_ => (Kd.freshB (g := gb256) (o := .cells #[.int .i64 a2_0, .int .i64 a2_1, .int .u64 a2_2, .int .i64 a2_3] 24 (0, 0)) (by (with_reducible repeat (first | refine bw_ ?_ _ | refine bx_ ?_ | refine bl_ ?_ _)); exact BK256.out) k_ hn_))⟩)) (bs_ (by repeat (first | (with_reducible first | exact HB.out | apply ba_ | apply bn_ | apply bd_ | refine be_ ?_ GE255.out | refine be_ ?_ GE256.out) | exact HB.out))))
       have n2_ := am_ (blk_below (g := gb255) (o := .cells #[.int .i64 a1_0, .int .u64 a1_1, .slice (some ad257) l1_2.length c1_2, .bool a1_3, .int .i64 a1_4] 54 (0, 0)) (by (with_reducible repeat (first | refine bw_ ?_ _ | refine bx_ ?_ | refine bl_ ?_ _)); exact BK255.out) hb)
       have n3_ := am_ (blk_below (g := gb256) (o := .cells #[.int .i64 a2_0, .int .i64 a2_1, .int .u64 a2_2, .int .i64 a2_3] 24 (0, 0)) (by (with_reducible repeat (first | refine bw_ ?_ _ | refine bx_ ?_ | refine bl_ ?_ _)); exact BK256.out) hb)
       have n4_ := am_ (bt_ (by repeat (first | (with_reducible first | exact HB.out | apply ba_ | apply bn_ | apply bd_ | refine be_ ?_ GE255.out | refine be_ ?_ GE256.out) | exact HB.out)) hb)
       clear HO260
       clear BK255
       clear BK256
       clear HB
       have HO260 := n0_
       have HO264 := n1_
       have BK255 := n2_
       have BK256 := n3_
       have HB := n4_
       clear n0_ n1_ n2_ n3_ n4_
       (try clear hb)
       (try clear hb2)
       (try clear hk)
       (try clear hi)
       (try clear ho0)
       obtain ⟨Ao52, co52, eo52⟩ := Kd.V_slice HO264.out
       (first | subst eo52 | (injection eo52 with f1_ f2_ f3_; have f4_ := f1_.symm; have f5_ := f3_.symm; clear f1_ f2_ f3_; subst f4_; subst f5_))
       refine hK.out _ _ ⟨(bc_ BK255.out 0).trans rfl, (bc_ BK255.out 1).trans rfl, (bc_ BK255.out 2).trans rfl, (bc_ BK255.out 3).trans rfl, (bc_ BK255.out 4).trans rfl, (bc_ BK256.out 0).trans rfl, (bc_ BK256.out 1).trans rfl, (bc_ BK256.out 2).trans rfl, (bc_ BK256.out 3).trans rfl⟩ (fun hHeld => ?_)
       clear hK K
       refine norm_ (a' := ?_) ?_ ?_
       rotate_left
       ·show Act.put _ (some 36) _ = _
        simp only [Act.put, sa_, sz_, ss_, i64_w, i32_w]
        rfl
       refine one_ (i := 4) (N := some 39) #[true, true, true, true, true, false, false] rfl rfl (by kernel_rfl) (by decide) (fun K hK => ?_)
       refine goes_ Tryd.func102 (by kernel_rfl) rfl #[.slice Ao52 t262.length co52, .int .i64 a2_3] (by rfl) rfl rfl (by (try simp only [List.map_toArray, List.map_cons, List.map_nil]); first | done | rfl | (simp only [List.length_drop, lt_]; rfl)) ?_
       with_reducible refine (catenaryref04_Without.calls k _ _ t262 a2_3 t265 _ ?side1 ?side2 A12.out).mono ?_
       (case side1 => repeat (first | exact (Kd.V_reads' HO264.out).2.2 | (with_reducible refine Kd.C_alloc ?_ _) | (with_reducible refine Kd.C_drewN ?_ _) | (with_reducible refine Kd.C_drew ?_)))
       (case side2 => exact (Kd.V_reads' HO264.out).2.1)
       rintro e w53 ⟨v266, rfl, ho0, hb⟩
       refine ⟨_, rfl, ?_⟩
       have n0_ := am_ (Kd.R_elder' (by (with_reducible repeat (first | apply Kd.R_alloc | apply Kd.R_drewN | apply Kd.R_drew)); exact HO260.out) (Kd.R_base ho0) hb)
       have n1_ := am_ (Kd.V_elder' (by (with_reducible repeat (first | apply Kd.V_alloc | apply Kd.V_drewN | apply Kd.V_drew)); exact HO264.out) (Kd.R_base ho0) hb)
       have n2_ := am_ (Kd.R_lower (Kd.R_new' ho0 (Kd.R_lt (by (with_reducible repeat (first | apply Kd.R_alloc | apply Kd.R_drewN | apply Kd.R_drew)); exact HO260.out))) (bs_ (by repeat (first | (with_reducible first | exact HB.out | apply ba_ | apply bn_ | apply bd_ | refine be_ ?_ GE255.out | refine be_ ?_ GE256.out) | exact HB.out))))
       have n3_ := am_ (blk_below (g := gb255) (o := .cells #[.int .i64 a1_0, .int .u64 a1_1, .slice (some ad257) l1_2.length c1_2, .bool a1_3, .int .i64 a1_4] 54 (0, 0)) (by (with_reducible repeat (first | refine bw_ ?_ _ | refine bx_ ?_ | refine bl_ ?_ _)); exact BK255.out) hb)
       have n4_ := am_ (blk_below (g := gb256) (o := .cells #[.int .i64 a2_0, .int .i64 a2_1, .int .u64 a2_2, .int .i64 a2_3] 24 (0, 0)) (by (with_reducible repeat (first | refine bw_ ?_ _ | refine bx_ ?_ | refine bl_ ?_ _)); exact BK256.out) hb)
       have n5_ := am_ (bt_ (by repeat (first | (with_reducible first | exact HB.out | apply ba_ | apply bn_ | apply bd_ | refine be_ ?_ GE255.out | refine be_ ?_ GE256.out) | exact HB.out)) hb)
       clear HO260
       clear HO264
       clear BK255
       clear BK256
       clear HB
       have HO260 := n0_
       have HO264 := n1_
       have HO267 := n2_
       have BK255 := n3_
       have BK256 := n4_
       have HB := n5_
       clear n0_ n1_ n2_ n3_ n4_ n5_
       (try clear hb)
       (try clear hb2)
       (try clear hk)
       (try clear hi)
       (try clear ho0)
       obtain ⟨Ao54, co54, eo54⟩ := Kd.R_slice HO267.out
       (first | subst eo54 | (injection eo54 with f1_ f2_ f3_; have f4_ := f1_.symm; have f5_ := f3_.symm; clear f1_ f2_ f3_; subst f4_; subst f5_))
       refine hK.out _ _ ⟨(bc_ BK255.out 0).trans rfl, (bc_ BK255.out 1).trans rfl, (bc_ BK255.out 2).trans rfl, (bc_ BK255.out 3).trans rfl, (bc_ BK255.out 4).trans rfl, (bc_ BK256.out 0).trans rfl, (bc_ BK256.out 1).trans rfl, (bc_ BK256.out 2).trans rfl, (bc_ BK256.out 3).trans rfl⟩ (fun hHeld => ?_)
       clear hK K
       refine norm_ (a' := ?_) ?_ ?_
       rotate_left
       ·show Act.put _ (some 39) _ = _
        simp only [Act.put, sa_, sz_, ss_, i64_w, i32_w]
        rfl
       refine pure_ (i := 5) (N := some 40) (v := ?_) (a' := ?_) #[true, true, true, true, true, true, false] rfl rfl (by kernel_rfl) (fun _ _ _ h => h) (Or.inl ⟨by rfl, ?_⟩) ?_ ?_
       rotate_left
       ·intro w'
        go_simp
        with_reducible rfl
       rotate_left
       ·simp only [Act.put, sa_, sz_, ss_, i64_w, i32_w]
        rfl
       refine pure_ (i := 6) (N := some 41) (v := ?_) (a' := ?_) #[true, true, true, true, true, true, true] rfl rfl (by kernel_rfl) (fun _ _ _ h => h) (Or.inl ⟨by rfl, ?_⟩) ?_ ?_
       rotate_left
       ·intro w'
        go_simp
        with_reducible rfl
       rotate_left
       ·simp only [Act.put, sa_, sz_, ss_, i64_w, i32_w]
        rfl
       refine done_ (by kernel_rfl) ?_
       have hcz55_0 : w53.cell? ⟨gb255, 0, none⟩ = some (.int .i64 a1_0) := (bc_ BK255.out 0).trans rfl
       have hcz55_1 : w53.cell? ⟨gb255, 1, none⟩ = some (.int .u64 a1_1) := (bc_ BK255.out 1).trans rfl
       have hcz55_2 : w53.cell? ⟨gb255, 2, none⟩ = some (.slice (some ad257) l1_2.length c1_2) := (bc_ BK255.out 2).trans rfl
       have hcz55_3 : w53.cell? ⟨gb255, 3, none⟩ = some (.bool a1_3) := (bc_ BK255.out 3).trans rfl
       have hcz55_4 : w53.cell? ⟨gb255, 4, none⟩ = some (.int .i64 a1_4) := (bc_ BK255.out 4).trans rfl
       have hfz55_0 := bf_ BK255.out 0
       have hfz55_1 := bf_ BK255.out 1
       have hfz55_2 := bf_ BK255.out 2
       have hfz55_3 := bf_ BK255.out 3
       have hfz55_4 := bf_ BK255.out 4
       try go_wp2
       go_ret
       exact ⟨by first | rfl | (simp [errW_none, errW_some] <;> rfl) | (simp only [← hji4]; first | rfl | (simp [errW_none, errW_some] <;> rfl)) | (simp [*, errW_none, errW_some] <;> rfl), by repeat (first | (with_reducible first | exact HB.out | apply ba_ | apply bn_ | apply bd_ | refine be_ ?_ GE255.out | refine be_ ?_ GE256.out) | exact HB.out)⟩
    ·replace c10 := Bool.eq_false_iff.mpr c10
     subst c10
     have H1 : (some 7) = some r := by rw [if_neg (show ¬ (false = true) by decide)] at H; exact H
     clear H
     have H := H1
     clear H1
     obtain rfl := Option.some.inj H
     go_enter Tryd.func64, Tryd.ntmps64
     try go_wp2_with (first | ((with_reducible refine gate_dst (N := 4) rfl ?_); refine box_event ?hg (N := 4) ?hd (cs := #[.int .i64 a1_0, .int .u64 a1_1, .slice A1_2 l1_2.length c1_2, .bool a1_3, .int .i64 a1_4]) (t := 54) ?hr ?_; (case hd => rfl); (case hg => rfl); (case hr => first | (go_simp; done) | (go_simp; rfl)); intro gb255 hg w56 hbox hb; have n0_ := am_ (bt_ (by repeat (first | (with_reducible first | exact HB.out | apply ba_ | apply bn_ | apply bd_) | exact HB.out)) hb); have n1_ := am_ (hbox); have n2_ := am_ ((by rw [hg]; exact (bs_ (by repeat (first | (with_reducible first | exact HB.out | apply ba_ | apply bn_ | apply bd_) | exact HB.out))) : w.heap.size ≤ gb255)); have n3_ := am_ ((by rw [hg]; exact (bs_ (by repeat (first | (with_reducible first | exact HB.out | apply ba_ | apply bn_ | apply bd_) | exact HB.out))) : w.heap.size ≤ gb255)); clear HB; have HB := n0_; have BK255 := n1_; have GW255 := n2_; have GE255 := n3_; clear n0_ n1_ n2_ n3_; clear hb hbox hg) | ((with_reducible refine gate_dst (N := 5) rfl ?_); refine box_event ?hg (N := 5) ?hd (cs := #[.int .i64 a2_0, .int .i64 a2_1, .int .u64 a2_2, .int .i64 a2_3]) (t := 24) ?hr ?_; (case hd => rfl); (case hg => rfl); (case hr => first | (go_simp; done) | (go_simp; rfl)); intro gb256 hg w57 hbox hb; have n0_ := am_ (blk_below (g := gb255) (o := .cells #[.int .i64 a1_0, .int .u64 a1_1, .slice A1_2 l1_2.length c1_2, .bool a1_3, .int .i64 a1_4] 54 (0, 0)) (by (with_reducible repeat (first | refine bw_ ?_ _ | refine bx_ ?_ | refine bl_ ?_ _)); exact BK255.out) hb); have n1_ := am_ (bt_ (by repeat (first | (with_reducible first | exact HB.out | apply ba_ | apply bn_ | apply bd_ | refine be_ ?_ GE255.out) | exact HB.out)) hb); have n2_ := am_ (hbox); have n3_ := am_ ((by rw [hg]; exact (bs_ (by repeat (first | (with_reducible first | exact HB.out | apply ba_ | apply bn_ | apply bd_ | refine be_ ?_ GE255.out) | exact HB.out))) : w.heap.size ≤ gb256)); have n4_ := am_ ((by rw [hg]; exact (bs_ (by repeat (first | (with_reducible first | exact HB.out | apply ba_ | apply bn_ | apply bd_ | refine be_ ?_ GE255.out) | exact HB.out))) : w.heap.size ≤ gb256)); have n5_ := am_ ((by rw [hg]; exact Nat.ne_of_lt (blk_lt (g := gb255) (o := .cells #[.int .i64 a1_0, .int .u64 a1_1, .slice A1_2 l1_2.length c1_2, .bool a1_3, .int .i64 a1_4] 54 (0, 0)) (by (with_reducible repeat (first | refine bw_ ?_ _ | refine bx_ ?_ | refine bl_ ?_ _)); exact BK255.out)) : gb255 ≠ gb256)); have n6_ := am_ ((by rw [hg]; exact Nat.ne_of_gt (blk_lt (g := gb255) (o := .cells #[.int .i64 a1_0, .int .u64 a1_1, .slice A1_2 l1_2.length c1_2, .bool a1_3, .int .i64 a1_4] 54 (0, 0)) (by (with_reducible repeat (first | refine bw_ ?_ _ | refine bx_ ?_ | refine bl_ ?_ _)); exact BK255.out)) : gb256 ≠ gb255)); clear BK255; clear HB; have BK255 := n0_; have HB := n1_; have BK256 := n2_; have GW256 := n3_; have GE256 := n4_; have NB255_256 := n5_; have NB256_255 := n6_; clear n0_ n1_ n2_ n3_ n4_ n5_ n6_; clear hb hbox hg; have hnb58 := NB255_256.out; have hnc58 := NB256_255.out; have hcz59_0 : w57.cell? ⟨gb255, 0, none⟩ = some (.int .i64 a1_0) := (bc_ BK255.out 0).trans rfl; have hcz59_1 : w57.cell? ⟨gb255, 1, none⟩ = some (.int .u64 a1_1) := (bc_ BK255.out 1).trans rfl; have hcz59_2 : w57.cell? ⟨gb255, 2, none⟩ = some (.slice A1_2 l1_2.length c1_2) := (bc_ BK255.out 2).trans rfl; have hcz59_3 : w57.cell? ⟨gb255, 3, none⟩ = some (.bool a1_3) := (bc_ BK255.out 3).trans rfl; have hcz59_4 : w57.cell? ⟨gb255, 4, none⟩ = some (.int .i64 a1_4) := (bc_ BK255.out 4).trans rfl; have hfz59_0 := bf_ BK255.out 0; have hfz59_1 := bf_ BK255.out 1; have hfz59_2 := bf_ BK255.out 2; have hfz59_3 := bf_ BK255.out 3; have hfz59_4 := bf_ BK255.out 4; have p257 : 0 ≤ ((ji4) : Int) := od_ (by first | (with_reducible assumption) | assumption); have q257 : (ji4) < (l1_2.length : Int) := od_ (by first | (with_reducible assumption) | assumption); obtain ⟨ad257, e257, hx257_0⟩ := Kd.at_int HR1_2.out (ji4) p257 q257; cases e257; replace hx257_0 := (HB.out.cell (cl_ w _ hx257_0)).trans hx257_0; replace p257 := eq_true p257; replace q257 := eq_true q257; have hcz60_0 : w57.cell? ⟨gb256, 0, none⟩ = some (.int .i64 a2_0) := (bc_ BK256.out 0).trans rfl; have hcz60_1 : w57.cell? ⟨gb256, 1, none⟩ = some (.int .i64 a2_1) := (bc_ BK256.out 1).trans rfl; have hcz60_2 : w57.cell? ⟨gb256, 2, none⟩ = some (.int .u64 a2_2) := (bc_ BK256.out 2).trans rfl; have hcz60_3 : w57.cell? ⟨gb256, 3, none⟩ = some (.int .i64 a2_3) := (bc_ BK256.out 3).trans rfl; have hfz60_0 := bf_ BK256.out 0; have hfz60_1 := bf_ BK256.out 1; have hfz60_2 := bf_ BK256.out 2; have hfz60_3 := bf_ BK256.out 3))
     have n0_ := am_ (bx_ BK255.out)
     have n1_ := am_ (bx_ BK256.out)
     have n2_ := am_ (bd_ HB.out)
     clear BK255
     clear BK256
     clear HB
     have BK255 := n0_
     have BK256 := n1_
     have HB := n2_
     clear n0_ n1_ n2_
     refine start_ (n := 6) (S := fun w' => w'.cell? ⟨gb255, 0, none⟩ = some (.int .i64 a1_0) ∧ w'.cell? ⟨gb255, 1, none⟩ = some (.int .u64 a1_1) ∧ w'.cell? ⟨gb255, 2, none⟩ = some (.slice (some ad257) l1_2.length c1_2) ∧ w'.cell? ⟨gb255, 3, none⟩ = some (.bool a1_3) ∧ w'.cell? ⟨gb255, 4, none⟩ = some (.int .i64 a1_4) ∧ w'.cell? ⟨gb256, 0, none⟩ = some (.int .i64 a2_0) ∧ w'.cell? ⟨gb256, 1, none⟩ = some (.int .i64 a2_1) ∧ w'.cell? ⟨gb256, 2, none⟩ = some (.int .u64 a2_2) ∧ w'.cell? ⟨gb256, 3, none⟩ = some (.int .i64 a2_3)) (ds := []) #[false, false, false, false, false, false] (by kernel_rfl) rfl rfl ⟨(bc_ BK255.out 0).trans rfl, (bc_ BK255.out 1).trans rfl, (bc_ BK255.out 2).trans rfl, (bc_ BK255.out 3).trans rfl, (bc_ BK255.out 4).trans rfl, (bc_ BK256.out 0).trans rfl, (bc_ BK256.out 1).trans rfl, (bc_ BK256.out 2).trans rfl, (bc_ BK256.out 3).trans rfl⟩ (fun hHeld => ?_)
     generalize w57.drew = w61 at BK255 BK256 HB hHeld ⊢
     refine pure_ (i := 2) (N := some 31) (v := ?_) (a' := ?_) #[false, false, true, false, false, false] rfl rfl (by kernel_rfl) (fun _ _ _ h => h) (Or.inl ⟨by rfl, ?_⟩) ?_ ?_
     rotate_left
     ·intro w'
      go_simp
      with_reducible rfl
     rotate_left
     ·simp only [Act.put, sa_, sz_, ss_, i64_w, i32_w]
      rfl
     refine take_ (i := 0) (N := some 29) (v := ?_) (a' := ?_) #[true, false, true, false, false, false] rfl rfl (by kernel_rfl) (fun _ _ _ h => h) (Or.inl ⟨by rfl, ?_⟩) hHeld ?_ ?_
     rotate_left
     ·rintro w' ⟨s0, s1, s2, s3, s4, s5, s6, s7, s8⟩
      go_simp
      with_reducible rfl
     rotate_left
     ·simp only [Act.put, sa_, sz_, ss_, i64_w, i32_w]
      rfl
     refine take_ (i := 3) (N := some 32) (v := ?_) (a' := ?_) #[true, false, true, true, false, false] rfl rfl (by kernel_rfl) (fun _ _ _ h => h) (Or.inl ⟨by rfl, ?_⟩) hHeld ?_ ?_
     rotate_left
     ·rintro w' ⟨s0, s1, s2, s3, s4, s5, s6, s7, s8⟩
      go_simp
      with_reducible rfl
     rotate_left
     ·simp only [Act.put, sa_, sz_, ss_, i64_w, i32_w]
      rfl
     refine one_ (i := 1) (N := some 30) #[true, true, true, true, false, false] rfl rfl (by kernel_rfl) (by decide) (fun K hK => ?_)
     refine goes_ Tryd.func69 (by kernel_rfl) rfl #[.agg #[.int .i64 a1_0, .int .u64 a1_1, .slice (some ad257) l1_2.length c1_2, .bool a1_3, .int .i64 a1_4]] (by rfl) rfl rfl (by (try simp only [List.map_toArray, List.map_cons, List.map_nil]); first | done | rfl | (simp only [List.length_drop, lt_]; rfl)) ?_
     with_reducible refine (catenaryref09_Stands.calls a1_0 a1_1 _ _ l1_2 a1_3 a1_4 t258 _ ?side1 ?side2 A8.out).mono ?_
     (case side1 => repeat (first | exact (Kd.C_below HR1_2.out HB.out) | (with_reducible refine Kd.C_alloc ?_ _) | (with_reducible refine Kd.C_drewN ?_ _) | (with_reducible refine Kd.C_drew ?_)))
     (case side2 => exact HC1_2.out)
     rintro e w62 ⟨v259, rfl, ho0, hb⟩
     refine ⟨_, rfl, ?_⟩
     have n0_ := am_ (Kd.R_lower ho0 (bs_ (by repeat (first | (with_reducible first | exact HB.out | apply ba_ | apply bn_ | apply bd_ | refine be_ ?_ GE255.out | refine be_ ?_ GE256.out) | exact HB.out))))
     have n1_ := am_ (blk_below (g := gb255) (o := .cells #[.int .i64 a1_0, .int .u64 a1_1, .slice (some ad257) l1_2.length c1_2, .bool a1_3, .int .i64 a1_4] 54 (0, 0)) (by (with_reducible repeat (first | refine bw_ ?_ _ | refine bx_ ?_ | refine bl_ ?_ _)); exact BK255.out) hb)
     have n2_ := am_ (blk_below (g := gb256) (o := .cells #[.int .i64 a2_0, .int .i64 a2_1, .int .u64 a2_2, .int .i64 a2_3] 24 (0, 0)) (by (with_reducible repeat (first | refine bw_ ?_ _ | refine bx_ ?_ | refine bl_ ?_ _)); exact BK256.out) hb)
     have n3_ := am_ (bt_ (by repeat (first | (with_reducible first | exact HB.out | apply ba_ | apply bn_ | apply bd_ | refine be_ ?_ GE255.out | refine be_ ?_ GE256.out) | exact HB.out)) hb)
     clear BK255
     clear BK256
     clear HB
     have HO260 := n0_
     have BK255 := n1_
     have BK256 := n2_
     have HB := n3_
     clear n0_ n1_ n2_ n3_
     (try clear hb)
     (try clear hb2)
     (try clear hk)
     (try clear hi)
     (try clear ho0)
     obtain ⟨Ao63, co63, eo63⟩ := Kd.R_slice HO260.out
     (first | subst eo63 | (injection eo63 with f1_ f2_ f3_; have f4_ := f1_.symm; have f5_ := f3_.symm; clear f1_ f2_ f3_; subst f4_; subst f5_))
     refine hK.out _ _ ⟨(bc_ BK255.out 0).trans rfl, (bc_ BK255.out 1).trans rfl, (bc_ BK255.out 2).trans rfl, (bc_ BK255.out 3).trans rfl, (bc_ BK255.out 4).trans rfl, (bc_ BK256.out 0).trans rfl, (bc_ BK256.out 1).trans rfl, (bc_ BK256.out 2).trans rfl, (bc_ BK256.out 3).trans rfl⟩ (fun hHeld => ?_)
     clear hK K
     refine norm_ (a' := ?_) ?_ ?_
     rotate_left
     ·show Act.put _ (some 30) _ = _
      simp only [Act.put, sa_, sz_, ss_, i64_w, i32_w]
      rfl
     refine one_ (i := 4) (N := some 33) #[true, true, true, true, true, false] rfl rfl (by kernel_rfl) (by decide) (fun K hK => ?_)
     refine goes_ Tryd.func74 (by kernel_rfl) rfl #[.slice Ao63 t258.length co63, .int .i64 a2_3] (by rfl) rfl rfl (by (try simp only [List.map_toArray, List.map_cons, List.map_nil]); first | done | rfl | (simp only [List.length_drop, lt_]; rfl)) ?_
     with_reducible refine (catenaryref04_Has.calls k _ _ t258 a2_3 false _ ?side1 ?side2 A9.out).mono ?_
     (case side1 => repeat (first | exact (Kd.R_reads' HO260.out).2.2 | (with_reducible refine Kd.C_alloc ?_ _) | (with_reducible refine Kd.C_drewN ?_ _) | (with_reducible refine Kd.C_drew ?_)))
     (case side2 => exact (Kd.R_reads' HO260.out).2.1)
     rintro e w' ⟨rfl, ⟨nd, rfl⟩⟩
     refine ⟨_, rfl, ?_⟩
     refine hK.out _ _ ⟨(bc_ BK255.out 0).trans rfl, (bc_ BK255.out 1).trans rfl, (bc_ BK255.out 2).trans rfl, (bc_ BK255.out 3).trans rfl, (bc_ BK255.out 4).trans rfl, (bc_ BK256.out 0).trans rfl, (bc_ BK256.out 1).trans rfl, (bc_ BK256.out 2).trans rfl, (bc_ BK256.out 3).trans rfl⟩ (fun hHeld => ?_)
     clear hK K
     refine norm_ (a' := ?_) ?_ ?_
     rotate_left
     ·show Act.put _ (some 33) _ = _
      simp only [Act.put, sa_, sz_, ss_, i64_w, i32_w]
      rfl
     refine pure_ (i := 5) (N := some 34) (v := ?_) (a' := ?_) #[true, true, true, true, true, true] rfl rfl (by kernel_rfl) (fun _ _ _ h => h) (Or.inl ⟨by rfl, ?_⟩) ?_ ?_
     rotate_left
     ·intro w'
      go_simp
      with_reducible rfl
     rotate_left
     ·simp only [Act.put, sa_, sz_, ss_, i64_w, i32_w]
      rfl
     refine done_ (by kernel_rfl) ?_
     try go_wp2
     go_ret
     exact ⟨by first | rfl | (simp [errW_none, errW_some] <;> rfl) | (simp only [← hji4]; first | rfl | (simp [errW_none, errW_some] <;> rfl)) | (simp [*, errW_none, errW_some] <;> rfl), by repeat (first | (with_reducible first | exact HB.out | apply ba_ | apply bn_ | apply bd_ | refine be_ ?_ GE255.out | refine be_ ?_ GE256.out) | exact HB.out)⟩
   ·rw [if_neg c7] at H
    have c7b0 : (a2_0 == 1) = false := beq_eq_false_iff_ne.mpr c7
    have c7b1 : (a2_0 != 1) = true := bne_iff_ne.mpr c7
    by_cases c64 : a2_0 = 2
    ·rw [if_pos c64] at H
     have c64b0 : (a2_0 == 2) = true := beq_iff_eq.mpr c64
     have c64b1 : (a2_0 != 2) = false := bne_eq_false_iff_eq.mpr c64
     clear c64
     replace H := Option.bind_eq_some_iff.mp H
     obtain ⟨t268, A650, H⟩ := H
     replace H : (if t268 = true then (some 8) else (if a1_4 = 0 then (catenaryref09_can.j0 k a1_3 a1_0 a1_1 l1_2 a1_3 a1_4) else (catenaryref09_can.j0 k true a1_0 a1_1 l1_2 a1_3 a1_4))) = some r := H
     have A65 := am_ A650
     clear A650
     by_cases c66 : t268 = true
     ·subst c66
      have H1 : (some 8) = some r := by rw [if_pos rfl] at H; exact H
      clear H
      have H := H1
      clear H1
      obtain rfl := Option.some.inj H
      go_enter Tryd.func64, Tryd.ntmps64
      go_wp2_with (first | ((with_reducible refine gate_dst (N := 4) rfl ?_); refine box_event ?hg (N := 4) ?hd (cs := #[.int .i64 a1_0, .int .u64 a1_1, .slice A1_2 l1_2.length c1_2, .bool a1_3, .int .i64 a1_4]) (t := 54) ?hr ?_; (case hd => rfl); (case hg => rfl); (case hr => first | (go_simp; done) | (go_simp; rfl)); intro gb255 hg w67 hbox hb; have n0_ := am_ (bt_ (by repeat (first | (with_reducible first | exact HB.out | apply ba_ | apply bn_ | apply bd_) | exact HB.out)) hb); have n1_ := am_ (hbox); have n2_ := am_ ((by rw [hg]; exact (bs_ (by repeat (first | (with_reducible first | exact HB.out | apply ba_ | apply bn_ | apply bd_) | exact HB.out))) : w.heap.size ≤ gb255)); have n3_ := am_ ((by rw [hg]; exact (bs_ (by repeat (first | (with_reducible first | exact HB.out | apply ba_ | apply bn_ | apply bd_) | exact HB.out))) : w.heap.size ≤ gb255)); clear HB; have HB := n0_; have BK255 := n1_; have GW255 := n2_; have GE255 := n3_; clear n0_ n1_ n2_ n3_; clear hb hbox hg) | ((with_reducible refine gate_dst (N := 5) rfl ?_); refine box_event ?hg (N := 5) ?hd (cs := #[.int .i64 a2_0, .int .i64 a2_1, .int .u64 a2_2, .int .i64 a2_3]) (t := 24) ?hr ?_; (case hd => rfl); (case hg => rfl); (case hr => first | (go_simp; done) | (go_simp; rfl)); intro gb256 hg w68 hbox hb; have n0_ := am_ (blk_below (g := gb255) (o := .cells #[.int .i64 a1_0, .int .u64 a1_1, .slice A1_2 l1_2.length c1_2, .bool a1_3, .int .i64 a1_4] 54 (0, 0)) (by (with_reducible repeat (first | refine bw_ ?_ _ | refine bx_ ?_ | refine bl_ ?_ _)); exact BK255.out) hb); have n1_ := am_ (bt_ (by repeat (first | (with_reducible first | exact HB.out | apply ba_ | apply bn_ | apply bd_ | refine be_ ?_ GE255.out) | exact HB.out)) hb); have n2_ := am_ (hbox); have n3_ := am_ ((by rw [hg]; exact (bs_ (by repeat (first | (with_reducible first | exact HB.out | apply ba_ | apply bn_ | apply bd_ | refine be_ ?_ GE255.out) | exact HB.out))) : w.heap.size ≤ gb256)); have n4_ := am_ ((by rw [hg]; exact (bs_ (by repeat (first | (with_reducible first | exact HB.out | apply ba_ | apply bn_ | apply bd_ | refine be_ ?_ GE255.out) | exact HB.out))) : w.heap.size ≤ gb256)); have n5_ := am_ ((by rw [hg]; exact Nat.ne_of_lt (blk_lt (g := gb255) (o := .cells #[.int .i64 a1_0, .int .u64 a1_1, .slice A1_2 l1_2.length c1_2, .bool a1_3, .int .i64 a1_4] 54 (0, 0)) (by (with_reducible repeat (first | refine bw_ ?_ _ | refine bx_ ?_ | refine bl_ ?_ _)); exact BK255.out)) : gb255 ≠ gb256)); have n6_ := am_ ((by rw [hg]; exact Nat.ne_of_gt (blk_lt (g := gb255) (o := .cells #[.int .i64 a1_0, .int .u64 a1_1, .slice A1_2 l1_2.length c1_2, .bool a1_3, .int .i64 a1_4] 54 (0, 0)) (by (with_reducible repeat (first | refine bw_ ?_ _ | refine bx_ ?_ | refine bl_ ?_ _)); exact BK255.out)) : gb256 ≠ gb255)); clear BK255; clear HB; have BK255 := n0_; have HB := n1_; have BK256 := n2_; have GW256 := n3_; have GE256 := n4_; have NB255_256 := n5_; have NB256_255 := n6_; clear n0_ n1_ n2_ n3_ n4_ n5_ n6_; clear hb hbox hg; have hnb69 := NB255_256.out; have hnc69 := NB256_255.out; have hcz70_0 : w68.cell? ⟨gb255, 0, none⟩ = some (.int .i64 a1_0) := (bc_ BK255.out 0).trans rfl; have hcz70_1 : w68.cell? ⟨gb255, 1, none⟩ = some (.int .u64 a1_1) := (bc_ BK255.out 1).trans rfl; have hcz70_2 : w68.cell? ⟨gb255, 2, none⟩ = some (.slice A1_2 l1_2.length c1_2) := (bc_ BK255.out 2).trans rfl; have hcz70_3 : w68.cell? ⟨gb255, 3, none⟩ = some (.bool a1_3) := (bc_ BK255.out 3).trans rfl; have hcz70_4 : w68.cell? ⟨gb255, 4, none⟩ = some (.int .i64 a1_4) := (bc_ BK255.out 4).trans rfl; have hfz70_0 := bf_ BK255.out 0; have hfz70_1 := bf_ BK255.out 1; have hfz70_2 := bf_ BK255.out 2; have hfz70_3 := bf_ BK255.out 3; have hfz70_4 := bf_ BK255.out 4; have p257 : 0 ≤ ((ji4) : Int) := od_ (by first | (with_reducible assumption) | assumption); have q257 : (ji4) < (l1_2.length : Int) := od_ (by first | (with_reducible assumption) | assumption); obtain ⟨ad257, e257, hx257_0⟩ := Kd.at_int HR1_2.out (ji4) p257 q257; cases e257; replace hx257_0 := (HB.out.cell (cl_ w _ hx257_0)).trans hx257_0; replace p257 := eq_true p257; replace q257 := eq_true q257; have hcz71_0 : w68.cell? ⟨gb256, 0, none⟩ = some (.int .i64 a2_0) := (bc_ BK256.out 0).trans rfl; have hcz71_1 : w68.cell? ⟨gb256, 1, none⟩ = some (.int .i64 a2_1) := (bc_ BK256.out 1).trans rfl; have hcz71_2 : w68.cell? ⟨gb256, 2, none⟩ = some (.int .u64 a2_2) := (bc_ BK256.out 2).trans rfl; have hcz71_3 : w68.cell? ⟨gb256, 3, none⟩ = some (.int .i64 a2_3) := (bc_ BK256.out 3).trans rfl; have hfz71_0 := bf_ BK256.out 0; have hfz71_1 := bf_ BK256.out 1; have hfz71_2 := bf_ BK256.out 2; have hfz71_3 := bf_ BK256.out 3) | ((with_reducible refine gate_callee (f := 39) rfl ?_); refine goesL_ (some 47) rfl rfl Tryd.func39 (by kernel_rfl) rfl #[.slice A0 l0.length c0, .int .i64 a2_3] rfl (by (try simp only [List.map_toArray, List.map_cons, List.map_nil]); first | done | rfl | (simp only [List.length_drop, lt_]; rfl)) ?_; (with_reducible refine (catenaryref09_Used.calls k _ _ l0 a2_3 true _ ?side1 ?side2 A65.out).mono ?_); (case side1 => repeat (first | exact (Kd.C_below HR0.out HB.out) | (with_reducible refine Kd.C_alloc ?_ _) | (with_reducible refine Kd.C_drewN ?_ _) | (with_reducible refine Kd.C_drew ?_))); (case side2 => exact HC0.out); rintro e w72 ⟨rfl, hb⟩; refine ⟨_, rfl, ?_⟩; have n0_ := am_ (blk_below (g := gb255) (o := .cells #[.int .i64 a1_0, .int .u64 a1_1, .slice (some ad257) l1_2.length c1_2, .bool a1_3, .int .i64 a1_4] 54 (0, 0)) (by (with_reducible repeat (first | refine bw_ ?_ _ | refine bx_ ?_ | refine bl_ ?_ _)); exact BK255.out) hb); have n1_ := am_ (blk_below (g := gb256) (o := .cells #[.int .i64 a2_0, .int .i64 a2_1, .int .u64 a2_2, .int .i64 a2_3] 24 (0, 0)) (by (with_reducible repeat (first | refine bw_ ?_ _ | refine bx_ ?_ | refine bl_ ?_ _)); exact BK256.out) hb); have n2_ := am_ (bt_ (by repeat (first | (with_reducible first | exact HB.out | apply ba_ | apply bn_ | apply bd_ | refine be_ ?_ GE255.out | refine be_ ?_ GE256.out) | exact HB.out)) hb); clear BK255; clear BK256; clear HB; have BK255 := n0_; have BK256 := n1_; have HB := n2_; clear n0_ n1_ n2_; (try clear hb); (try clear hb2); (try clear hk); (try clear hi)))
      go_ret
      exact ⟨by first | rfl | (simp [errW_none, errW_some] <;> rfl) | (simp only [← hji4]; first | rfl | (simp [errW_none, errW_some] <;> rfl)) | (simp [*, errW_none, errW_some] <;> rfl), by repeat (first | (with_reducible first | exact HB.out | apply ba_ | apply bn_ | apply bd_ | refine be_ ?_ GE255.out | refine be_ ?_ GE256.out) | exact HB.out)⟩
     ·replace c66 := Bool.eq_false_iff.mpr c66
      subst c66
      have H1 : (if a1_4 = 0 then (catenaryref09_can.j0 k a1_3 a1_0 a1_1 l1_2 a1_3 a1_4) else (catenaryref09_can.j0 k true a1_0 a1_1 l1_2 a1_3 a1_4)) = some r := by rw [if_neg (show ¬ (false = true) by decide)] at H; exact H
      clear H
      have H := H1
      clear H1
      have HC73 := am_ H
      clear H
      go_enter Tryd.func64, Tryd.ntmps64
      go_upto_region 13 with (first | ((with_reducible refine gate_dst (N := 4) rfl ?_); refine box_event ?hg (N := 4) ?hd (cs := #[.int .i64 a1_0, .int .u64 a1_1, .slice A1_2 l1_2.length c1_2, .bool a1_3, .int .i64 a1_4]) (t := 54) ?hr ?_; (case hd => rfl); (case hg => rfl); (case hr => first | (go_simp; done) | (go_simp; rfl)); intro gb255 hg w74 hbox hb; have n0_ := am_ (bt_ (by repeat (first | (with_reducible first | exact HB.out | apply ba_ | apply bn_ | apply bd_) | exact HB.out)) hb); have n1_ := am_ (hbox); have n2_ := am_ ((by rw [hg]; exact (bs_ (by repeat (first | (with_reducible first | exact HB.out | apply ba_ | apply bn_ | apply bd_) | exact HB.out))) : w.heap.size ≤ gb255)); have n3_ := am_ ((by rw [hg]; exact (bs_ (by repeat (first | (with_reducible first | exact HB.out | apply ba_ | apply bn_ | apply bd_) | exact HB.out))) : w.heap.size ≤ gb255)); clear HB; have HB := n0_; have BK255 := n1_; have GW255 := n2_; have GE255 := n3_; clear n0_ n1_ n2_ n3_; clear hb hbox hg) | ((with_reducible refine gate_dst (N := 5) rfl ?_); refine box_event ?hg (N := 5) ?hd (cs := #[.int .i64 a2_0, .int .i64 a2_1, .int .u64 a2_2, .int .i64 a2_3]) (t := 24) ?hr ?_; (case hd => rfl); (case hg => rfl); (case hr => first | (go_simp; done) | (go_simp; rfl)); intro gb256 hg w75 hbox hb; have n0_ := am_ (blk_below (g := gb255) (o := .cells #[.int .i64 a1_0, .int .u64 a1_1, .slice A1_2 l1_2.length c1_2, .bool a1_3, .int .i64 a1_4] 54 (0, 0)) (by (with_reducible repeat (first | refine bw_ ?_ _ | refine bx_ ?_ | refine bl_ ?_ _)); exact BK255.out) hb); have n1_ := am_ (bt_ (by repeat (first | (with_reducible first | exact HB.out | apply ba_ | apply bn_ | apply bd_ | refine be_ ?_ GE255.out) | exact HB.out)) hb); have n2_ := am_ (hbox); have n3_ := am_ ((by rw [hg]; exact (bs_ (by repeat (first | (with_reducible first | exact HB.out | apply ba_ | apply bn_ | apply bd_ | refine be_ ?_ GE255.out) | exact HB.out))) : w.heap.size ≤ gb256)); have n4_ := am_ ((by rw [hg]; exact (bs_ (by repeat (first | (with_reducible first | exact HB.out | apply ba_ | apply bn_ | apply bd_ | refine be_ ?_ GE255.out) | exact HB.out))) : w.heap.size ≤ gb256)); have n5_ := am_ ((by rw [hg]; exact Nat.ne_of_lt (blk_lt (g := gb255) (o := .cells #[.int .i64 a1_0, .int .u64 a1_1, .slice A1_2 l1_2.length c1_2, .bool a1_3, .int .i64 a1_4] 54 (0, 0)) (by (with_reducible repeat (first | refine bw_ ?_ _ | refine bx_ ?_ | refine bl_ ?_ _)); exact BK255.out)) : gb255 ≠ gb256)); have n6_ := am_ ((by rw [hg]; exact Nat.ne_of_gt (blk_lt (g := gb255) (o := .cells #[.int .i64 a1_0, .int .u64 a1_1, .slice A1_2 l1_2.length c1_2, .bool a1_3, .int .i64 a1_4] 54 (0, 0)) (by (with_reducible repeat (first | refine bw_ ?_ _ | refine bx_ ?_ | refine bl_ ?_ _)); exact BK255.out)) : gb256 ≠ gb255)); clear BK255; clear HB; have BK255 := n0_; have HB := n1_; have BK256 := n2_; have GW256 := n3_; have GE256 := n4_; have NB255_256 := n5_; have NB256_255 := n6_; clear n0_ n1_ n2_ n3_ n4_ n5_ n6_; clear hb hbox hg; have hnb76 := NB255_256.out; have hnc76 := NB256_255.out; have hcz77_0 : w75.cell? ⟨gb255, 0, none⟩ = some (.int .i64 a1_0) := (bc_ BK255.out 0).trans rfl; have hcz77_1 : w75.cell? ⟨gb255, 1, none⟩ = some (.int .u64 a1_1) := (bc_ BK255.out 1).trans rfl; have hcz77_2 : w75.cell? ⟨gb255, 2, none⟩ = some (.slice A1_2 l1_2.length c1_2) := (bc_ BK255.out 2).trans rfl; have hcz77_3 : w75.cell? ⟨gb255, 3, none⟩ = some (.bool a1_3) := (bc_ BK255.out 3).trans rfl; have hcz77_4 : w75.cell? ⟨gb255, 4, none⟩ = some (.int .i64 a1_4) := (bc_ BK255.out 4).trans rfl; have hfz77_0 := bf_ BK255.out 0; have hfz77_1 := bf_ BK255.out 1; have hfz77_2 := bf_ BK255.out 2; have hfz77_3 := bf_ BK255.out 3; have hfz77_4 := bf_ BK255.out 4; have p257 : 0 ≤ ((ji4) : Int) := od_ (by first | (with_reducible assumption) | assumption); have q257 : (ji4) < (l1_2.length : Int) := od_ (by first | (with_reducible assumption) | assumption); obtain ⟨ad257, e257, hx257_0⟩ := Kd.at_int HR1_2.out (ji4) p257 q257; cases e257; replace hx257_0 := (HB.out.cell (cl_ w _ hx257_0)).trans hx257_0; replace p257 := eq_true p257; replace q257 := eq_true q257; have hcz78_0 : w75.cell? ⟨gb256, 0, none⟩ = some (.int .i64 a2_0) := (bc_ BK256.out 0).trans rfl; have hcz78_1 : w75.cell? ⟨gb256, 1, none⟩ = some (.int .i64 a2_1) := (bc_ BK256.out 1).trans rfl; have hcz78_2 : w75.cell? ⟨gb256, 2, none⟩ = some (.int .u64 a2_2) := (bc_ BK256.out 2).trans rfl; have hcz78_3 : w75.cell? ⟨gb256, 3, none⟩ = some (.int .i64 a2_3) := (bc_ BK256.out 3).trans rfl; have hfz78_0 := bf_ BK256.out 0; have hfz78_1 := bf_ BK256.out 1; have hfz78_2 := bf_ BK256.out 2; have hfz78_3 := bf_ BK256.out 3) | ((with_reducible refine gate_callee (f := 39) rfl ?_); refine goesL_ (some 47) rfl rfl Tryd.func39 (by kernel_rfl) rfl #[.slice A0 l0.length c0, .int .i64 a2_3] rfl (by (try simp only [List.map_toArray, List.map_cons, List.map_nil]); first | done | rfl | (simp only [List.length_drop, lt_]; rfl)) ?_; (with_reducible refine (catenaryref09_Used.calls k _ _ l0 a2_3 false _ ?side1 ?side2 A65.out).mono ?_); (case side1 => repeat (first | exact (Kd.C_below HR0.out HB.out) | (with_reducible refine Kd.C_alloc ?_ _) | (with_reducible refine Kd.C_drewN ?_ _) | (with_reducible refine Kd.C_drew ?_))); (case side2 => exact HC0.out); rintro e w79 ⟨rfl, hb⟩; refine ⟨_, rfl, ?_⟩; have n0_ := am_ (blk_below (g := gb255) (o := .cells #[.int .i64 a1_0, .int .u64 a1_1, .slice (some ad257) l1_2.length c1_2, .bool a1_3, .int .i64 a1_4] 54 (0, 0)) (by (with_reducible repeat (first | refine bw_ ?_ _ | refine bx_ ?_ | refine bl_ ?_ _)); exact BK255.out) hb); have n1_ := am_ (blk_below (g := gb256) (o := .cells #[.int .i64 a2_0, .int .i64 a2_1, .int .u64 a2_2, .int .i64 a2_3] 24 (0, 0)) (by (with_reducible repeat (first | refine bw_ ?_ _ | refine bx_ ?_ | refine bl_ ?_ _)); exact BK256.out) hb); have n2_ := am_ (bt_ (by repeat (first | (with_reducible first | exact HB.out | apply ba_ | apply bn_ | apply bd_ | refine be_ ?_ GE255.out | refine be_ ?_ GE256.out) | exact HB.out)) hb); clear BK255; clear BK256; clear HB; have BK255 := n0_; have BK256 := n1_; have HB := n2_; clear n0_ n1_ n2_; (try clear hb); (try clear hb2); (try clear hk); (try clear hi)))
      (try simp only [Act.put, sa_, sz_, ss_])
      go_cut [54] (fun v54 wc => ∃ (kq : Nat) (x54_72 : Bool), v54 = .bool x54_72 ∧ Aside0 (catenaryref09_can.j0 kq x54_72 a1_0 a1_1 l1_2 a1_3 a1_4 = some r) ∧ Aside0 (kq ≤ k) ∧ Aside0 (wc.heap[gb255]? = some (.cells #[.int .i64 a1_0, .int .u64 a1_1, (.slice (some ad257) l1_2.length c1_2), .bool a1_3, .int .i64 a1_4] 54 (0, 0))) ∧ Aside0 (wc.heap[gb256]? = some (.cells #[.int .i64 a2_0, .int .i64 a2_1, .int .u64 a2_2, .int .i64 a2_3] 24 (0, 0))) ∧ Aside0 (Below w.heap.size w wc))
      case first =>
       have H := HC73.out
       clear HC73
       by_cases c80 : a1_4 = 0
       ·rw [if_pos c80] at H
        have c80b0 : (a1_4 == 0) = true := beq_iff_eq.mpr c80
        have c80b1 : (a1_4 != 0) = false := bne_eq_false_iff_eq.mpr c80
        clear c80
        (first | rw [c80b0] | (simp only [i64_w, i32_w]; rw [c80b0]) | skip)
        have H' := am_ H
        clear H
        have hnb81 := NB255_256.out
        have hnc81 := NB256_255.out
        have hcz82_0 : w79.cell? ⟨gb255, 0, none⟩ = some (.int .i64 a1_0) := (bc_ BK255.out 0).trans rfl
        have hcz82_1 : w79.cell? ⟨gb255, 1, none⟩ = some (.int .u64 a1_1) := (bc_ BK255.out 1).trans rfl
        have hcz82_2 : w79.cell? ⟨gb255, 2, none⟩ = some (.slice (some ad257) l1_2.length c1_2) := (bc_ BK255.out 2).trans rfl
        have hcz82_3 : w79.cell? ⟨gb255, 3, none⟩ = some (.bool a1_3) := (bc_ BK255.out 3).trans rfl
        have hcz82_4 : w79.cell? ⟨gb255, 4, none⟩ = some (.int .i64 a1_4) := (bc_ BK255.out 4).trans rfl
        have hfz82_0 := bf_ BK255.out 0
        have hfz82_1 := bf_ BK255.out 1
        have hfz82_2 := bf_ BK255.out 2
        have hfz82_3 := bf_ BK255.out 3
        have hfz82_4 := bf_ BK255.out 4
        go_wp2
        go_meet
        case rel => exact ⟨_, (a1_3), (by first | rfl | (simp; done) | (simp [*]; done)), H', ⟨by first | omega | exact Nat.le_refl _⟩, ⟨by (with_reducible repeat (first | refine bw_ ?_ _ | refine bx_ ?_ | refine bl_ ?_ _)); exact BK255.out⟩, ⟨by (with_reducible repeat (first | refine bw_ ?_ _ | refine bx_ ?_ | refine bl_ ?_ _)); exact BK256.out⟩, ⟨by repeat (first | (with_reducible first | exact HB.out | apply ba_ | apply bn_ | apply bd_ | refine be_ ?_ GE255.out | refine be_ ?_ GE256.out) | exact HB.out)⟩⟩
       ·rw [if_neg c80] at H
        have c80b0 : (a1_4 == 0) = false := beq_eq_false_iff_ne.mpr c80
        have c80b1 : (a1_4 != 0) = true := bne_iff_ne.mpr c80
        (first | rw [c80b0] | (simp only [i64_w, i32_w]; rw [c80b0]) | skip)
        have H' := am_ H
        clear H
        have hnb83 := NB255_256.out
        have hnc83 := NB256_255.out
        have hcz84_0 : w79.cell? ⟨gb255, 0, none⟩ = some (.int .i64 a1_0) := (bc_ BK255.out 0).trans rfl
        have hcz84_1 : w79.cell? ⟨gb255, 1, none⟩ = some (.int .u64 a1_1) := (bc_ BK255.out 1).trans rfl
        have hcz84_2 : w79.cell? ⟨gb255, 2, none⟩ = some (.slice (some ad257) l1_2.length c1_2) := (bc_ BK255.out 2).trans rfl
        have hcz84_3 : w79.cell? ⟨gb255, 3, none⟩ = some (.bool a1_3) := (bc_ BK255.out 3).trans rfl
        have hcz84_4 : w79.cell? ⟨gb255, 4, none⟩ = some (.int .i64 a1_4) := (bc_ BK255.out 4).trans rfl
        have hfz84_0 := bf_ BK255.out 0
        have hfz84_1 := bf_ BK255.out 1
        have hfz84_2 := bf_ BK255.out 2
        have hfz84_3 := bf_ BK255.out 3
        have hfz84_4 := bf_ BK255.out 4
        go_wp2
        go_meet
        case rel => exact ⟨_, (true), (by first | rfl | (simp; done) | (simp [*]; done)), H', ⟨by first | omega | exact Nat.le_refl _⟩, ⟨by (with_reducible repeat (first | refine bw_ ?_ _ | refine bx_ ?_ | refine bl_ ?_ _)); exact BK255.out⟩, ⟨by (with_reducible repeat (first | refine bw_ ?_ _ | refine bx_ ?_ | refine bl_ ?_ _)); exact BK256.out⟩, ⟨by repeat (first | (with_reducible first | exact HB.out | apply ba_ | apply bn_ | apply bd_ | refine be_ ?_ GE255.out | refine be_ ?_ GE256.out) | exact HB.out)⟩⟩
      case rest =>
       clear HC73
       try clear c1
       try clear c2
       try clear p2
       try clear q2
       try clear hx2
       try clear c3
       try clear c4
       try clear c5
       try clear c6
       try clear c7
       try clear c7b0
       try clear c7b1
       try clear c8
       try clear c10
       try clear p25
       try clear q25
       try clear hx25
       try clear c27
       try clear c27b0
       try clear c27b1
       try clear c37
       try clear c39
       try clear c44
       try clear c58
       try clear c64
       try clear c64b0
       try clear c64b1
       try clear c66
       try clear c69
       try clear c74
       try clear c76
       try clear c80
       try clear c80b0
       try clear c80b1
       try clear c81
       try clear c83
       try clear hcz41_0
       try clear hcz41_1
       try clear hcz41_2
       try clear hcz41_3
       try clear hcz41_4
       try clear hcz45_0
       try clear hcz45_1
       try clear hcz45_2
       try clear hcz45_3
       try clear hcz45_4
       try clear hcz46_0
       try clear hcz46_1
       try clear hcz46_2
       try clear hcz46_3
       try clear hcz55_0
       try clear hcz55_1
       try clear hcz55_2
       try clear hcz55_3
       try clear hcz55_4
       try clear hcz59_0
       try clear hcz59_1
       try clear hcz59_2
       try clear hcz59_3
       try clear hcz59_4
       try clear hcz60_0
       try clear hcz60_1
       try clear hcz60_2
       try clear hcz60_3
       try clear hcz70_0
       try clear hcz70_1
       try clear hcz70_2
       try clear hcz70_3
       try clear hcz70_4
       try clear hcz71_0
       try clear hcz71_1
       try clear hcz71_2
       try clear hcz71_3
       try clear hcz77_0
       try clear hcz77_1
       try clear hcz77_2
       try clear hcz77_3
       try clear hcz77_4
       try clear hcz78_0
       try clear hcz78_1
       try clear hcz78_2
       try clear hcz78_3
       try clear hcz82_0
       try clear hcz82_1
       try clear hcz82_2
       try clear hcz82_3
       try clear hcz82_4
       try clear hcz84_0
       try clear hcz84_1
       try clear hcz84_2
       try clear hcz84_3
       try clear hcz84_4
       try clear hfz41_0
       try clear hfz41_1
       try clear hfz41_2
       try clear hfz41_3
       try clear hfz41_4
       try clear hfz45_0
       try clear hfz45_1
       try clear hfz45_2
       try clear hfz45_3
       try clear hfz45_4
       try clear hfz46_0
       try clear hfz46_1
       try clear hfz46_2
       try clear hfz46_3
       try clear hfz55_0
       try clear hfz55_1
       try clear hfz55_2
       try clear hfz55_3
       try clear hfz55_4
       try clear hfz59_0
       try clear hfz59_1
       try clear hfz59_2
       try clear hfz59_3
       try clear hfz59_4
       try clear hfz60_0
       try clear hfz60_1
       try clear hfz60_2
       try clear hfz60_3
       try clear hfz70_0
       try clear hfz70_1
       try clear hfz70_2
       try clear hfz70_3
       try clear hfz70_4
       try clear hfz71_0
       try clear hfz71_1
       try clear hfz71_2
       try clear hfz71_3
       try clear hfz77_0
       try clear hfz77_1
       try clear hfz77_2
       try clear hfz77_3
       try clear hfz77_4
       try clear hfz78_0
       try clear hfz78_1
       try clear hfz78_2
       try clear hfz78_3
       try clear hfz82_0
       try clear hfz82_1
       try clear hfz82_2
       try clear hfz82_3
       try clear hfz82_4
       try clear hfz84_0
       try clear hfz84_1
       try clear hfz84_2
       try clear hfz84_3
       try clear hfz84_4
       try clear hx257_0
       try clear p257
       try clear q257
       obtain ⟨kq, x54_72, rfl, HA, HJ72, BK255, BK256, HB⟩ := hcut
       cases kq with
       | zero => exact absurd HA.out (by simp [catenaryref09_can.j0])
       | succ kj72 =>
        have H := HA.out
        clear HA
        simp only [catenaryref09_can.j0] at H
        by_cases c85 : x54_72 = true
        ·subst c85
         have H1 : (some 12) = some r := by rw [if_pos rfl] at H; exact H
         clear H
         have H := H1
         clear H1
         obtain rfl := Option.some.inj H
         go_wp2
         go_ret
         exact ⟨by first | rfl | (simp [errW_none, errW_some] <;> rfl) | (simp only [← hji4]; first | rfl | (simp [errW_none, errW_some] <;> rfl)) | (simp [*, errW_none, errW_some] <;> rfl), by repeat (first | (with_reducible first | exact HB.out | apply ba_ | apply bn_ | apply bd_ | refine be_ ?_ GE255.out | refine be_ ?_ GE256.out) | exact HB.out)⟩
        ·replace c85 := Bool.eq_false_iff.mpr c85
         subst c85
         have H1 : (if (l1_2.length : Int) = 5 then (some 9) else (if a1_1 = 18446744073709551615 then (some 9) else (some 0))) = some r := by rw [if_neg (show ¬ (false = true) by decide)] at H; exact H
         clear H
         have H := H1
         clear H1
         by_cases c86 : (l1_2.length : Int) = 5
         ·rw [if_pos c86] at H
          have c86b0 : ((l1_2.length : Int) == 5) = true := beq_iff_eq.mpr c86
          have c86b1 : ((l1_2.length : Int) != 5) = false := bne_eq_false_iff_eq.mpr c86
          clear c86
          obtain rfl := Option.some.inj H
          have hnb87 := NB255_256.out
          have hnc87 := NB256_255.out
          have hcz88_0 : wc.cell? ⟨gb255, 0, none⟩ = some (.int .i64 a1_0) := (bc_ BK255.out 0).trans rfl
          have hcz88_1 : wc.cell? ⟨gb255, 1, none⟩ = some (.int .u64 a1_1) := (bc_ BK255.out 1).trans rfl
          have hcz88_2 : wc.cell? ⟨gb255, 2, none⟩ = some (.slice (some ad257) l1_2.length c1_2) := (bc_ BK255.out 2).trans rfl
          have hcz88_3 : wc.cell? ⟨gb255, 3, none⟩ = some (.bool a1_3) := (bc_ BK255.out 3).trans rfl
          have hcz88_4 : wc.cell? ⟨gb255, 4, none⟩ = some (.int .i64 a1_4) := (bc_ BK255.out 4).trans rfl
          have hfz88_0 := bf_ BK255.out 0
          have hfz88_1 := bf_ BK255.out 1
          have hfz88_2 := bf_ BK255.out 2
          have hfz88_3 := bf_ BK255.out 3
          have hfz88_4 := bf_ BK255.out 4
          go_wp2
          go_ret
          exact ⟨by first | rfl | (simp [errW_none, errW_some] <;> rfl) | (simp only [← hji4]; first | rfl | (simp [errW_none, errW_some] <;> rfl)) | (simp [*, errW_none, errW_some] <;> rfl), by repeat (first | (with_reducible first | exact HB.out | apply ba_ | apply bn_ | apply bd_ | refine be_ ?_ GE255.out | refine be_ ?_ GE256.out) | exact HB.out)⟩
         ·rw [if_neg c86] at H
          have c86b0 : ((l1_2.length : Int) == 5) = false := beq_eq_false_iff_ne.mpr c86
          have c86b1 : ((l1_2.length : Int) != 5) = true := bne_iff_ne.mpr c86
          by_cases c89 : a1_1 = 18446744073709551615
          ·rw [if_pos c89] at H
           have c89b0 : (a1_1 == 18446744073709551615) = true := beq_iff_eq.mpr c89
           have c89b1 : (a1_1 != 18446744073709551615) = false := bne_eq_false_iff_eq.mpr c89
           clear c89
           obtain rfl := Option.some.inj H
           have hnb90 := NB255_256.out
           have hnc90 := NB256_255.out
           have hcz91_0 : wc.cell? ⟨gb255, 0, none⟩ = some (.int .i64 a1_0) := (bc_ BK255.out 0).trans rfl
           have hcz91_1 : wc.cell? ⟨gb255, 1, none⟩ = some (.int .u64 a1_1) := (bc_ BK255.out 1).trans rfl
           have hcz91_2 : wc.cell? ⟨gb255, 2, none⟩ = some (.slice (some ad257) l1_2.length c1_2) := (bc_ BK255.out 2).trans rfl
           have hcz91_3 : wc.cell? ⟨gb255, 3, none⟩ = some (.bool a1_3) := (bc_ BK255.out 3).trans rfl
           have hcz91_4 : wc.cell? ⟨gb255, 4, none⟩ = some (.int .i64 a1_4) := (bc_ BK255.out 4).trans rfl
           have hfz91_0 := bf_ BK255.out 0
           have hfz91_1 := bf_ BK255.out 1
           have hfz91_2 := bf_ BK255.out 2
           have hfz91_3 := bf_ BK255.out 3
           have hfz91_4 := bf_ BK255.out 4
           go_wp2
           go_ret
           exact ⟨by first | rfl | (simp [errW_none, errW_some] <;> rfl) | (simp only [← hji4]; first | rfl | (simp [errW_none, errW_some] <;> rfl)) | (simp [*, errW_none, errW_some] <;> rfl), by repeat (first | (with_reducible first | exact HB.out | apply ba_ | apply bn_ | apply bd_ | refine be_ ?_ GE255.out | refine be_ ?_ GE256.out) | exact HB.out)⟩
          ·rw [if_neg c89] at H
           have c89b0 : (a1_1 == 18446744073709551615) = false := beq_eq_false_iff_ne.mpr c89
           have c89b1 : (a1_1 != 18446744073709551615) = true := bne_iff_ne.mpr c89
           obtain rfl := Option.some.inj H
           have hnb92 := NB255_256.out
           have hnc92 := NB256_255.out
           have hcz93_0 : wc.cell? ⟨gb255, 0, none⟩ = some (.int .i64 a1_0) := (bc_ BK255.out 0).trans rfl
           have hcz93_1 : wc.cell? ⟨gb255, 1, none⟩ = some (.int .u64 a1_1) := (bc_ BK255.out 1).trans rfl
           have hcz93_2 : wc.cell? ⟨gb255, 2, none⟩ = some (.slice (some ad257) l1_2.length c1_2) := (bc_ BK255.out 2).trans rfl
           have hcz93_3 : wc.cell? ⟨gb255, 3, none⟩ = some (.bool a1_3) := (bc_ BK255.out 3).trans rfl
           have hcz93_4 : wc.cell? ⟨gb255, 4, none⟩ = some (.int .i64 a1_4) := (bc_ BK255.out 4).trans rfl
           have hfz93_0 := bf_ BK255.out 0
           have hfz93_1 := bf_ BK255.out 1
           have hfz93_2 := bf_ BK255.out 2
           have hfz93_3 := bf_ BK255.out 3
           have hfz93_4 := bf_ BK255.out 4
           go_wp2
           go_ret
           exact ⟨by first | rfl | (simp [errW_none, errW_some] <;> rfl) | (simp only [← hji4]; first | rfl | (simp [errW_none, errW_some] <;> rfl)) | (simp [*, errW_none, errW_some] <;> rfl), by repeat (first | (with_reducible first | exact HB.out | apply ba_ | apply bn_ | apply bd_ | refine be_ ?_ GE255.out | refine be_ ?_ GE256.out) | exact HB.out)⟩
    ·rw [if_neg c64] at H
     have c64b0 : (a2_0 == 2) = false := beq_eq_false_iff_ne.mpr c64
     have c64b1 : (a2_0 != 2) = true := bne_iff_ne.mpr c64
     by_cases c94 : a2_0 = 3
     ·rw [if_pos c94] at H
      have c94b0 : (a2_0 == 3) = true := beq_iff_eq.mpr c94
      have c94b1 : (a2_0 != 3) = false := bne_eq_false_iff_eq.mpr c94
      clear c94
      by_cases c95 : a1_4 = a2_3
      ·rw [if_pos c95] at H
       have c95b0 : (a1_4 == a2_3) = true := beq_iff_eq.mpr c95
       have c95b1 : (a1_4 != a2_3) = false := bne_eq_false_iff_eq.mpr c95
       clear c95
       by_cases c96 : (l1_2.length : Int) = 5
       ·rw [if_pos c96] at H
        have c96b0 : ((l1_2.length : Int) == 5) = true := beq_iff_eq.mpr c96
        have c96b1 : ((l1_2.length : Int) != 5) = false := bne_eq_false_iff_eq.mpr c96
        clear c96
        obtain rfl := Option.some.inj H
        go_enter Tryd.func64, Tryd.ntmps64
        go_wp2_with (first | ((with_reducible refine gate_dst (N := 4) rfl ?_); refine box_event ?hg (N := 4) ?hd (cs := #[.int .i64 a1_0, .int .u64 a1_1, .slice A1_2 l1_2.length c1_2, .bool a1_3, .int .i64 a1_4]) (t := 54) ?hr ?_; (case hd => rfl); (case hg => rfl); (case hr => first | (go_simp; done) | (go_simp; rfl)); intro gb255 hg w97 hbox hb; have n0_ := am_ (bt_ (by repeat (first | (with_reducible first | exact HB.out | apply ba_ | apply bn_ | apply bd_) | exact HB.out)) hb); have n1_ := am_ (hbox); have n2_ := am_ ((by rw [hg]; exact (bs_ (by repeat (first | (with_reducible first | exact HB.out | apply ba_ | apply bn_ | apply bd_) | exact HB.out))) : w.heap.size ≤ gb255)); have n3_ := am_ ((by rw [hg]; exact (bs_ (by repeat (first | (with_reducible first | exact HB.out | apply ba_ | apply bn_ | apply bd_) | exact HB.out))) : w.heap.size ≤ gb255)); clear HB; have HB := n0_; have BK255 := n1_; have GW255 := n2_; have GE255 := n3_; clear n0_ n1_ n2_ n3_; clear hb hbox hg) | ((with_reducible refine gate_dst (N := 5) rfl ?_); refine box_event ?hg (N := 5) ?hd (cs := #[.int .i64 a2_0, .int .i64 a2_1, .int .u64 a2_2, .int .i64 a2_3]) (t := 24) ?hr ?_; (case hd => rfl); (case hg => rfl); (case hr => first | (go_simp; done) | (go_simp; rfl)); intro gb256 hg w98 hbox hb; have n0_ := am_ (blk_below (g := gb255) (o := .cells #[.int .i64 a1_0, .int .u64 a1_1, .slice A1_2 l1_2.length c1_2, .bool a1_3, .int .i64 a1_4] 54 (0, 0)) (by (with_reducible repeat (first | refine bw_ ?_ _ | refine bx_ ?_ | refine bl_ ?_ _)); exact BK255.out) hb); have n1_ := am_ (bt_ (by repeat (first | (with_reducible first | exact HB.out | apply ba_ | apply bn_ | apply bd_ | refine be_ ?_ GE255.out) | exact HB.out)) hb); have n2_ := am_ (hbox); have n3_ := am_ ((by rw [hg]; exact (bs_ (by repeat (first | (with_reducible first | exact HB.out | apply ba_ | apply bn_ | apply bd_ | refine be_ ?_ GE255.out) | exact HB.out))) : w.heap.size ≤ gb256)); have n4_ := am_ ((by rw [hg]; exact (bs_ (by repeat (first | (with_reducible first | exact HB.out | apply ba_ | apply bn_ | apply bd_ | refine be_ ?_ GE255.out) | exact HB.out))) : w.heap.size ≤ gb256)); have n5_ := am_ ((by rw [hg]; exact Nat.ne_of_lt (blk_lt (g := gb255) (o := .cells #[.int .i64 a1_0, .int .u64 a1_1, .slice A1_2 l1_2.length c1_2, .bool a1_3, .int .i64 a1_4] 54 (0, 0)) (by (with_reducible repeat (first | refine bw_ ?_ _ | refine bx_ ?_ | refine bl_ ?_ _)); exact BK255.out)) : gb255 ≠ gb256)); have n6_ := am_ ((by rw [hg]; exact Nat.ne_of_gt (blk_lt (g := gb255) (o := .cells #[.int .i64 a1_0, .int .u64 a1_1, .slice A1_2 l1_2.length c1_2, .bool a1_3, .int .i64 a1_4] 54 (0, 0)) (by (with_reducible repeat (first | refine bw_ ?_ _ | refine bx_ ?_ | refine bl_ ?_ _)); exact BK255.out)) : gb256 ≠ gb255)); clear BK255; clear HB; have BK255 := n0_; have HB := n1_; have BK256 := n2_; have GW256 := n3_; have GE256 := n4_; have NB255_256 := n5_; have NB256_255 := n6_; clear n0_ n1_ n2_ n3_ n4_ n5_ n6_; clear hb hbox hg; have hnb99 := NB255_256.out; have hnc99 := NB256_255.out; have hcz100_0 : w98.cell? ⟨gb255, 0, none⟩ = some (.int .i64 a1_0) := (bc_ BK255.out 0).trans rfl; have hcz100_1 : w98.cell? ⟨gb255, 1, none⟩ = some (.int .u64 a1_1) := (bc_ BK255.out 1).trans rfl; have hcz100_2 : w98.cell? ⟨gb255, 2, none⟩ = some (.slice A1_2 l1_2.length c1_2) := (bc_ BK255.out 2).trans rfl; have hcz100_3 : w98.cell? ⟨gb255, 3, none⟩ = some (.bool a1_3) := (bc_ BK255.out 3).trans rfl; have hcz100_4 : w98.cell? ⟨gb255, 4, none⟩ = some (.int .i64 a1_4) := (bc_ BK255.out 4).trans rfl; have hfz100_0 := bf_ BK255.out 0; have hfz100_1 := bf_ BK255.out 1; have hfz100_2 := bf_ BK255.out 2; have hfz100_3 := bf_ BK255.out 3; have hfz100_4 := bf_ BK255.out 4; have p257 : 0 ≤ ((ji4) : Int) := od_ (by first | (with_reducible assumption) | assumption); have q257 : (ji4) < (l1_2.length : Int) := od_ (by first | (with_reducible assumption) | assumption); obtain ⟨ad257, e257, hx257_0⟩ := Kd.at_int HR1_2.out (ji4) p257 q257; cases e257; replace hx257_0 := (HB.out.cell (cl_ w _ hx257_0)).trans hx257_0; replace p257 := eq_true p257; replace q257 := eq_true q257; have hcz101_0 : w98.cell? ⟨gb256, 0, none⟩ = some (.int .i64 a2_0) := (bc_ BK256.out 0).trans rfl; have hcz101_1 : w98.cell? ⟨gb256, 1, none⟩ = some (.int .i64 a2_1) := (bc_ BK256.out 1).trans rfl; have hcz101_2 : w98.cell? ⟨gb256, 2, none⟩ = some (.int .u64 a2_2) := (bc_ BK256.out 2).trans rfl; have hcz101_3 : w98.cell? ⟨gb256, 3, none⟩ = some (.int .i64 a2_3) := (bc_ BK256.out 3).trans rfl; have hfz101_0 := bf_ BK256.out 0; have hfz101_1 := bf_ BK256.out 1; have hfz101_2 := bf_ BK256.out 2; have hfz101_3 := bf_ BK256.out 3))
        go_ret
        exact ⟨by first | rfl | (simp [errW_none, errW_some] <;> rfl) | (simp only [← hji4]; first | rfl | (simp [errW_none, errW_some] <;> rfl)) | (simp [*, errW_none, errW_some] <;> rfl), by repeat (first | (with_reducible first | exact HB.out | apply ba_ | apply bn_ | apply bd_ | refine be_ ?_ GE255.out | refine be_ ?_ GE256.out) | exact HB.out)⟩
       ·rw [if_neg c96] at H
        have c96b0 : ((l1_2.length : Int) == 5) = false := beq_eq_false_iff_ne.mpr c96
        have c96b1 : ((l1_2.length : Int) != 5) = true := bne_iff_ne.mpr c96
        by_cases c102 : a1_1 = 18446744073709551615
        ·rw [if_pos c102] at H
         have c102b0 : (a1_1 == 18446744073709551615) = true := beq_iff_eq.mpr c102
         have c102b1 : (a1_1 != 18446744073709551615) = false := bne_eq_false_iff_eq.mpr c102
         clear c102
         obtain rfl := Option.some.inj H
         go_enter Tryd.func64, Tryd.ntmps64
         go_wp2_with (first | ((with_reducible refine gate_dst (N := 4) rfl ?_); refine box_event ?hg (N := 4) ?hd (cs := #[.int .i64 a1_0, .int .u64 a1_1, .slice A1_2 l1_2.length c1_2, .bool a1_3, .int .i64 a1_4]) (t := 54) ?hr ?_; (case hd => rfl); (case hg => rfl); (case hr => first | (go_simp; done) | (go_simp; rfl)); intro gb255 hg w103 hbox hb; have n0_ := am_ (bt_ (by repeat (first | (with_reducible first | exact HB.out | apply ba_ | apply bn_ | apply bd_) | exact HB.out)) hb); have n1_ := am_ (hbox); have n2_ := am_ ((by rw [hg]; exact (bs_ (by repeat (first | (with_reducible first | exact HB.out | apply ba_ | apply bn_ | apply bd_) | exact HB.out))) : w.heap.size ≤ gb255)); have n3_ := am_ ((by rw [hg]; exact (bs_ (by repeat (first | (with_reducible first | exact HB.out | apply ba_ | apply bn_ | apply bd_) | exact HB.out))) : w.heap.size ≤ gb255)); clear HB; have HB := n0_; have BK255 := n1_; have GW255 := n2_; have GE255 := n3_; clear n0_ n1_ n2_ n3_; clear hb hbox hg) | ((with_reducible refine gate_dst (N := 5) rfl ?_); refine box_event ?hg (N := 5) ?hd (cs := #[.int .i64 a2_0, .int .i64 a2_1, .int .u64 a2_2, .int .i64 a2_3]) (t := 24) ?hr ?_; (case hd => rfl); (case hg => rfl); (case hr => first | (go_simp; done) | (go_simp; rfl)); intro gb256 hg w104 hbox hb; have n0_ := am_ (blk_below (g := gb255) (o := .cells #[.int .i64 a1_0, .int .u64 a1_1, .slice A1_2 l1_2.length c1_2, .bool a1_3, .int .i64 a1_4] 54 (0, 0)) (by (with_reducible repeat (first | refine bw_ ?_ _ | refine bx_ ?_ | refine bl_ ?_ _)); exact BK255.out) hb); have n1_ := am_ (bt_ (by repeat (first | (with_reducible first | exact HB.out | apply ba_ | apply bn_ | apply bd_ | refine be_ ?_ GE255.out) | exact HB.out)) hb); have n2_ := am_ (hbox); have n3_ := am_ ((by rw [hg]; exact (bs_ (by repeat (first | (with_reducible first | exact HB.out | apply ba_ | apply bn_ | apply bd_ | refine be_ ?_ GE255.out) | exact HB.out))) : w.heap.size ≤ gb256)); have n4_ := am_ ((by rw [hg]; exact (bs_ (by repeat (first | (with_reducible first | exact HB.out | apply ba_ | apply bn_ | apply bd_ | refine be_ ?_ GE255.out) | exact HB.out))) : w.heap.size ≤ gb256)); have n5_ := am_ ((by rw [hg]; exact Nat.ne_of_lt (blk_lt (g := gb255) (o := .cells #[.int .i64 a1_0, .int .u64 a1_1, .slice A1_2 l1_2.length c1_2, .bool a1_3, .int .i64 a1_4] 54 (0, 0)) (by (with_reducible repeat (first | refine bw_ ?_ _ | refine bx_ ?_ | refine bl_ ?_ _)); exact BK255.out)) : gb255 ≠ gb256)); have n6_ := am_ ((by rw [hg]; exact Nat.ne_of_gt (blk_lt (g := gb255) (o := .cells #[.int .i64 a1_0, .int .u64 a1_1, .slice A1_2 l1_2.length c1_2, .bool a1_3, .int .i64 a1_4] 54 (0, 0)) (by (with_reducible repeat (first | refine bw_ ?_ _ | refine bx_ ?_ | refine bl_ ?_ _)); exact BK255.out)) : gb256 ≠ gb255)); clear BK255; clear HB; have BK255 := n0_; have HB := n1_; have BK256 := n2_; have GW256 := n3_; have GE256 := n4_; have NB255_256 := n5_; have NB256_255 := n6_; clear n0_ n1_ n2_ n3_ n4_ n5_ n6_; clear hb hbox hg; have hnb105 := NB255_256.out; have hnc105 := NB256_255.out; have hcz106_0 : w104.cell? ⟨gb255, 0, none⟩ = some (.int .i64 a1_0) := (bc_ BK255.out 0).trans rfl; have hcz106_1 : w104.cell? ⟨gb255, 1, none⟩ = some (.int .u64 a1_1) := (bc_ BK255.out 1).trans rfl; have hcz106_2 : w104.cell? ⟨gb255, 2, none⟩ = some (.slice A1_2 l1_2.length c1_2) := (bc_ BK255.out 2).trans rfl; have hcz106_3 : w104.cell? ⟨gb255, 3, none⟩ = some (.bool a1_3) := (bc_ BK255.out 3).trans rfl; have hcz106_4 : w104.cell? ⟨gb255, 4, none⟩ = some (.int .i64 a1_4) := (bc_ BK255.out 4).trans rfl; have hfz106_0 := bf_ BK255.out 0; have hfz106_1 := bf_ BK255.out 1; have hfz106_2 := bf_ BK255.out 2; have hfz106_3 := bf_ BK255.out 3; have hfz106_4 := bf_ BK255.out 4; have p257 : 0 ≤ ((ji4) : Int) := od_ (by first | (with_reducible assumption) | assumption); have q257 : (ji4) < (l1_2.length : Int) := od_ (by first | (with_reducible assumption) | assumption); obtain ⟨ad257, e257, hx257_0⟩ := Kd.at_int HR1_2.out (ji4) p257 q257; cases e257; replace hx257_0 := (HB.out.cell (cl_ w _ hx257_0)).trans hx257_0; replace p257 := eq_true p257; replace q257 := eq_true q257; have hcz107_0 : w104.cell? ⟨gb256, 0, none⟩ = some (.int .i64 a2_0) := (bc_ BK256.out 0).trans rfl; have hcz107_1 : w104.cell? ⟨gb256, 1, none⟩ = some (.int .i64 a2_1) := (bc_ BK256.out 1).trans rfl; have hcz107_2 : w104.cell? ⟨gb256, 2, none⟩ = some (.int .u64 a2_2) := (bc_ BK256.out 2).trans rfl; have hcz107_3 : w104.cell? ⟨gb256, 3, none⟩ = some (.int .i64 a2_3) := (bc_ BK256.out 3).trans rfl; have hfz107_0 := bf_ BK256.out 0; have hfz107_1 := bf_ BK256.out 1; have hfz107_2 := bf_ BK256.out 2; have hfz107_3 := bf_ BK256.out 3))
         go_ret
         exact ⟨by first | rfl | (simp [errW_none, errW_some] <;> rfl) | (simp only [← hji4]; first | rfl | (simp [errW_none, errW_some] <;> rfl)) | (simp [*, errW_none, errW_some] <;> rfl), by repeat (first | (with_reducible first | exact HB.out | apply ba_ | apply bn_ | apply bd_ | refine be_ ?_ GE255.out | refine be_ ?_ GE256.out) | exact HB.out)⟩
        ·rw [if_neg c102] at H
         have c102b0 : (a1_1 == 18446744073709551615) = false := beq_eq_false_iff_ne.mpr c102
         have c102b1 : (a1_1 != 18446744073709551615) = true := bne_iff_ne.mpr c102
         obtain rfl := Option.some.inj H
         go_enter Tryd.func64, Tryd.ntmps64
         go_wp2_with (first | ((with_reducible refine gate_dst (N := 4) rfl ?_); refine box_event ?hg (N := 4) ?hd (cs := #[.int .i64 a1_0, .int .u64 a1_1, .slice A1_2 l1_2.length c1_2, .bool a1_3, .int .i64 a1_4]) (t := 54) ?hr ?_; (case hd => rfl); (case hg => rfl); (case hr => first | (go_simp; done) | (go_simp; rfl)); intro gb255 hg w108 hbox hb; have n0_ := am_ (bt_ (by repeat (first | (with_reducible first | exact HB.out | apply ba_ | apply bn_ | apply bd_) | exact HB.out)) hb); have n1_ := am_ (hbox); have n2_ := am_ ((by rw [hg]; exact (bs_ (by repeat (first | (with_reducible first | exact HB.out | apply ba_ | apply bn_ | apply bd_) | exact HB.out))) : w.heap.size ≤ gb255)); have n3_ := am_ ((by rw [hg]; exact (bs_ (by repeat (first | (with_reducible first | exact HB.out | apply ba_ | apply bn_ | apply bd_) | exact HB.out))) : w.heap.size ≤ gb255)); clear HB; have HB := n0_; have BK255 := n1_; have GW255 := n2_; have GE255 := n3_; clear n0_ n1_ n2_ n3_; clear hb hbox hg) | ((with_reducible refine gate_dst (N := 5) rfl ?_); refine box_event ?hg (N := 5) ?hd (cs := #[.int .i64 a2_0, .int .i64 a2_1, .int .u64 a2_2, .int .i64 a2_3]) (t := 24) ?hr ?_; (case hd => rfl); (case hg => rfl); (case hr => first | (go_simp; done) | (go_simp; rfl)); intro gb256 hg w109 hbox hb; have n0_ := am_ (blk_below (g := gb255) (o := .cells #[.int .i64 a1_0, .int .u64 a1_1, .slice A1_2 l1_2.length c1_2, .bool a1_3, .int .i64 a1_4] 54 (0, 0)) (by (with_reducible repeat (first | refine bw_ ?_ _ | refine bx_ ?_ | refine bl_ ?_ _)); exact BK255.out) hb); have n1_ := am_ (bt_ (by repeat (first | (with_reducible first | exact HB.out | apply ba_ | apply bn_ | apply bd_ | refine be_ ?_ GE255.out) | exact HB.out)) hb); have n2_ := am_ (hbox); have n3_ := am_ ((by rw [hg]; exact (bs_ (by repeat (first | (with_reducible first | exact HB.out | apply ba_ | apply bn_ | apply bd_ | refine be_ ?_ GE255.out) | exact HB.out))) : w.heap.size ≤ gb256)); have n4_ := am_ ((by rw [hg]; exact (bs_ (by repeat (first | (with_reducible first | exact HB.out | apply ba_ | apply bn_ | apply bd_ | refine be_ ?_ GE255.out) | exact HB.out))) : w.heap.size ≤ gb256)); have n5_ := am_ ((by rw [hg]; exact Nat.ne_of_lt (blk_lt (g := gb255) (o := .cells #[.int .i64 a1_0, .int .u64 a1_1, .slice A1_2 l1_2.length c1_2, .bool a1_3, .int .i64 a1_4] 54 (0, 0)) (by (with_reducible repeat (first | refine bw_ ?_ _ | refine bx_ ?_ | refine bl_ ?_ _)); exact BK255.out)) : gb255 ≠ gb256)); have n6_ := am_ ((by rw [hg]; exact Nat.ne_of_gt (blk_lt (g := gb255) (o := .cells #[.int .i64 a1_0, .int .u64 a1_1, .slice A1_2 l1_2.length c1_2, .bool a1_3, .int .i64 a1_4] 54 (0, 0)) (by (with_reducible repeat (first | refine bw_ ?_ _ | refine bx_ ?_ | refine bl_ ?_ _)); exact BK255.out)) : gb256 ≠ gb255)); clear BK255; clear HB; have BK255 := n0_; have HB := n1_; have BK256 := n2_; have GW256 := n3_; have GE256 := n4_; have NB255_256 := n5_; have NB256_255 := n6_; clear n0_ n1_ n2_ n3_ n4_ n5_ n6_; clear hb hbox hg; have hnb110 := NB255_256.out; have hnc110 := NB256_255.out; have hcz111_0 : w109.cell? ⟨gb255, 0, none⟩ = some (.int .i64 a1_0) := (bc_ BK255.out 0).trans rfl; have hcz111_1 : w109.cell? ⟨gb255, 1, none⟩ = some (.int .u64 a1_1) := (bc_ BK255.out 1).trans rfl; have hcz111_2 : w109.cell? ⟨gb255, 2, none⟩ = some (.slice A1_2 l1_2.length c1_2) := (bc_ BK255.out 2).trans rfl; have hcz111_3 : w109.cell? ⟨gb255, 3, none⟩ = some (.bool a1_3) := (bc_ BK255.out 3).trans rfl; have hcz111_4 : w109.cell? ⟨gb255, 4, none⟩ = some (.int .i64 a1_4) := (bc_ BK255.out 4).trans rfl; have hfz111_0 := bf_ BK255.out 0; have hfz111_1 := bf_ BK255.out 1; have hfz111_2 := bf_ BK255.out 2; have hfz111_3 := bf_ BK255.out 3; have hfz111_4 := bf_ BK255.out 4; have p257 : 0 ≤ ((ji4) : Int) := od_ (by first | (with_reducible assumption) | assumption); have q257 : (ji4) < (l1_2.length : Int) := od_ (by first | (with_reducible assumption) | assumption); obtain ⟨ad257, e257, hx257_0⟩ := Kd.at_int HR1_2.out (ji4) p257 q257; cases e257; replace hx257_0 := (HB.out.cell (cl_ w _ hx257_0)).trans hx257_0; replace p257 := eq_true p257; replace q257 := eq_true q257; have hcz112_0 : w109.cell? ⟨gb256, 0, none⟩ = some (.int .i64 a2_0) := (bc_ BK256.out 0).trans rfl; have hcz112_1 : w109.cell? ⟨gb256, 1, none⟩ = some (.int .i64 a2_1) := (bc_ BK256.out 1).trans rfl; have hcz112_2 : w109.cell? ⟨gb256, 2, none⟩ = some (.int .u64 a2_2) := (bc_ BK256.out 2).trans rfl; have hcz112_3 : w109.cell? ⟨gb256, 3, none⟩ = some (.int .i64 a2_3) := (bc_ BK256.out 3).trans rfl; have hfz112_0 := bf_ BK256.out 0; have hfz112_1 := bf_ BK256.out 1; have hfz112_2 := bf_ BK256.out 2; have hfz112_3 := bf_ BK256.out 3))
         go_ret
         exact ⟨by first | rfl | (simp [errW_none, errW_some] <;> rfl) | (simp only [← hji4]; first | rfl | (simp [errW_none, errW_some] <;> rfl)) | (simp [*, errW_none, errW_some] <;> rfl), by repeat (first | (with_reducible first | exact HB.out | apply ba_ | apply bn_ | apply bd_ | refine be_ ?_ GE255.out | refine be_ ?_ GE256.out) | exact HB.out)⟩
      ·rw [if_neg c95] at H
       have c95b0 : (a1_4 == a2_3) = false := beq_eq_false_iff_ne.mpr c95
       have c95b1 : (a1_4 != a2_3) = true := bne_iff_ne.mpr c95
       obtain rfl := Option.some.inj H
       go_enter Tryd.func64, Tryd.ntmps64
       go_wp2_with (first | ((with_reducible refine gate_dst (N := 4) rfl ?_); refine box_event ?hg (N := 4) ?hd (cs := #[.int .i64 a1_0, .int .u64 a1_1, .slice A1_2 l1_2.length c1_2, .bool a1_3, .int .i64 a1_4]) (t := 54) ?hr ?_; (case hd => rfl); (case hg => rfl); (case hr => first | (go_simp; done) | (go_simp; rfl)); intro gb255 hg w113 hbox hb; have n0_ := am_ (bt_ (by repeat (first | (with_reducible first | exact HB.out | apply ba_ | apply bn_ | apply bd_) | exact HB.out)) hb); have n1_ := am_ (hbox); have n2_ := am_ ((by rw [hg]; exact (bs_ (by repeat (first | (with_reducible first | exact HB.out | apply ba_ | apply bn_ | apply bd_) | exact HB.out))) : w.heap.size ≤ gb255)); have n3_ := am_ ((by rw [hg]; exact (bs_ (by repeat (first | (with_reducible first | exact HB.out | apply ba_ | apply bn_ | apply bd_) | exact HB.out))) : w.heap.size ≤ gb255)); clear HB; have HB := n0_; have BK255 := n1_; have GW255 := n2_; have GE255 := n3_; clear n0_ n1_ n2_ n3_; clear hb hbox hg) | ((with_reducible refine gate_dst (N := 5) rfl ?_); refine box_event ?hg (N := 5) ?hd (cs := #[.int .i64 a2_0, .int .i64 a2_1, .int .u64 a2_2, .int .i64 a2_3]) (t := 24) ?hr ?_; (case hd => rfl); (case hg => rfl); (case hr => first | (go_simp; done) | (go_simp; rfl)); intro gb256 hg w114 hbox hb; have n0_ := am_ (blk_below (g := gb255) (o := .cells #[.int .i64 a1_0, .int .u64 a1_1, .slice A1_2 l1_2.length c1_2, .bool a1_3, .int .i64 a1_4] 54 (0, 0)) (by (with_reducible repeat (first | refine bw_ ?_ _ | refine bx_ ?_ | refine bl_ ?_ _)); exact BK255.out) hb); have n1_ := am_ (bt_ (by repeat (first | (with_reducible first | exact HB.out | apply ba_ | apply bn_ | apply bd_ | refine be_ ?_ GE255.out) | exact HB.out)) hb); have n2_ := am_ (hbox); have n3_ := am_ ((by rw [hg]; exact (bs_ (by repeat (first | (with_reducible first | exact HB.out | apply ba_ | apply bn_ | apply bd_ | refine be_ ?_ GE255.out) | exact HB.out))) : w.heap.size ≤ gb256)); have n4_ := am_ ((by rw [hg]; exact (bs_ (by repeat (first | (with_reducible first | exact HB.out | apply ba_ | apply bn_ | apply bd_ | refine be_ ?_ GE255.out) | exact HB.out))) : w.heap.size ≤ gb256)); have n5_ := am_ ((by rw [hg]; exact Nat.ne_of_lt (blk_lt (g := gb255) (o := .cells #[.int .i64 a1_0, .int .u64 a1_1, .slice A1_2 l1_2.length c1_2, .bool a1_3, .int .i64 a1_4] 54 (0, 0)) (by (with_reducible repeat (first | refine bw_ ?_ _ | refine bx_ ?_ | refine bl_ ?_ _)); exact BK255.out)) : gb255 ≠ gb256)); have n6_ := am_ ((by rw [hg]; exact Nat.ne_of_gt (blk_lt (g := gb255) (o := .cells #[.int .i64 a1_0, .int .u64 a1_1, .slice A1_2 l1_2.length c1_2, .bool a1_3, .int .i64 a1_4] 54 (0, 0)) (by (with_reducible repeat (first | refine bw_ ?_ _ | refine bx_ ?_ | refine bl_ ?_ _)); exact BK255.out)) : gb256 ≠ gb255)); clear BK255; clear HB; have BK255 := n0_; have HB := n1_; have BK256 := n2_; have GW256 := n3_; have GE256 := n4_; have NB255_256 := n5_; have NB256_255 := n6_; clear n0_ n1_ n2_ n3_ n4_ n5_ n6_; clear hb hbox hg; have hnb115 := NB255_256.out; have hnc115 := NB256_255.out; have hcz116_0 : w114.cell? ⟨gb255, 0, none⟩ = some (.int .i64 a1_0) := (bc_ BK255.out 0).trans rfl; have hcz116_1 : w114.cell? ⟨gb255, 1, none⟩ = some (.int .u64 a1_1) := (bc_ BK255.out 1).trans rfl; have hcz116_2 : w114.cell? ⟨gb255, 2, none⟩ = some (.slice A1_2 l1_2.length c1_2) := (bc_ BK255.out 2).trans rfl; have hcz116_3 : w114.cell? ⟨gb255, 3, none⟩ = some (.bool a1_3) := (bc_ BK255.out 3).trans rfl; have hcz116_4 : w114.cell? ⟨gb255, 4, none⟩ = some (.int .i64 a1_4) := (bc_ BK255.out 4).trans rfl; have hfz116_0 := bf_ BK255.out 0; have hfz116_1 := bf_ BK255.out 1; have hfz116_2 := bf_ BK255.out 2; have hfz116_3 := bf_ BK255.out 3; have hfz116_4 := bf_ BK255.out 4; have p257 : 0 ≤ ((ji4) : Int) := od_ (by first | (with_reducible assumption) | assumption); have q257 : (ji4) < (l1_2.length : Int) := od_ (by first | (with_reducible assumption) | assumption); obtain ⟨ad257, e257, hx257_0⟩ := Kd.at_int HR1_2.out (ji4) p257 q257; cases e257; replace hx257_0 := (HB.out.cell (cl_ w _ hx257_0)).trans hx257_0; replace p257 := eq_true p257; replace q257 := eq_true q257; have hcz117_0 : w114.cell? ⟨gb256, 0, none⟩ = some (.int .i64 a2_0) := (bc_ BK256.out 0).trans rfl; have hcz117_1 : w114.cell? ⟨gb256, 1, none⟩ = some (.int .i64 a2_1) := (bc_ BK256.out 1).trans rfl; have hcz117_2 : w114.cell? ⟨gb256, 2, none⟩ = some (.int .u64 a2_2) := (bc_ BK256.out 2).trans rfl; have hcz117_3 : w114.cell? ⟨gb256, 3, none⟩ = some (.int .i64 a2_3) := (bc_ BK256.out 3).trans rfl; have hfz117_0 := bf_ BK256.out 0; have hfz117_1 := bf_ BK256.out 1; have hfz117_2 := bf_ BK256.out 2; have hfz117_3 := bf_ BK256.out 3))
       go_ret
       exact ⟨by first | rfl | (simp [errW_none, errW_some] <;> rfl) | (simp only [← hji4]; first | rfl | (simp [errW_none, errW_some] <;> rfl)) | (simp [*, errW_none, errW_some] <;> rfl), by repeat (first | (with_reducible first | exact HB.out | apply ba_ | apply bn_ | apply bd_ | refine be_ ?_ GE255.out | refine be_ ?_ GE256.out) | exact HB.out)⟩
     ·rw [if_neg c94] at H
      have c94b0 : (a2_0 == 3) = false := beq_eq_false_iff_ne.mpr c94
      have c94b1 : (a2_0 != 3) = true := bne_iff_ne.mpr c94
      have HC118 := am_ H
      clear H
      go_enter Tryd.func64, Tryd.ntmps64
      go_upto_region 3 with (first | ((with_reducible refine gate_dst (N := 4) rfl ?_); refine box_event ?hg (N := 4) ?hd (cs := #[.int .i64 a1_0, .int .u64 a1_1, .slice A1_2 l1_2.length c1_2, .bool a1_3, .int .i64 a1_4]) (t := 54) ?hr ?_; (case hd => rfl); (case hg => rfl); (case hr => first | (go_simp; done) | (go_simp; rfl)); intro gb255 hg w119 hbox hb; have n0_ := am_ (bt_ (by repeat (first | (with_reducible first | exact HB.out | apply ba_ | apply bn_ | apply bd_) | exact HB.out)) hb); have n1_ := am_ (hbox); have n2_ := am_ ((by rw [hg]; exact (bs_ (by repeat (first | (with_reducible first | exact HB.out | apply ba_ | apply bn_ | apply bd_) | exact HB.out))) : w.heap.size ≤ gb255)); have n3_ := am_ ((by rw [hg]; exact (bs_ (by repeat (first | (with_reducible first | exact HB.out | apply ba_ | apply bn_ | apply bd_) | exact HB.out))) : w.heap.size ≤ gb255)); clear HB; have HB := n0_; have BK255 := n1_; have GW255 := n2_; have GE255 := n3_; clear n0_ n1_ n2_ n3_; clear hb hbox hg) | ((with_reducible refine gate_dst (N := 5) rfl ?_); refine box_event ?hg (N := 5) ?hd (cs := #[.int .i64 a2_0, .int .i64 a2_1, .int .u64 a2_2, .int .i64 a2_3]) (t := 24) ?hr ?_; (case hd => rfl); (case hg => rfl); (case hr => first | (go_simp; done) | (go_simp; rfl)); intro gb256 hg w120 hbox hb; have n0_ := am_ (blk_below (g := gb255) (o := .cells #[.int .i64 a1_0, .int .u64 a1_1, .slice A1_2 l1_2.length c1_2, .bool a1_3, .int .i64 a1_4] 54 (0, 0)) (by (with_reducible repeat (first | refine bw_ ?_ _ | refine bx_ ?_ | refine bl_ ?_ _)); exact BK255.out) hb); have n1_ := am_ (bt_ (by repeat (first | (with_reducible first | exact HB.out | apply ba_ | apply bn_ | apply bd_ | refine be_ ?_ GE255.out) | exact HB.out)) hb); have n2_ := am_ (hbox); have n3_ := am_ ((by rw [hg]; exact (bs_ (by repeat (first | (with_reducible first | exact HB.out | apply ba_ | apply bn_ | apply bd_ | refine be_ ?_ GE255.out) | exact HB.out))) : w.heap.size ≤ gb256)); have n4_ := am_ ((by rw [hg]; exact (bs_ (by repeat (first | (with_reducible first | exact HB.out | apply ba_ | apply bn_ | apply bd_ | refine be_ ?_ GE255.out) | exact HB.out))) : w.heap.size ≤ gb256)); have n5_ := am_ ((by rw [hg]; exact Nat.ne_of_lt (blk_lt (g := gb255) (o := .cells #[.int .i64 a1_0, .int .u64 a1_1, .slice A1_2 l1_2.length c1_2, .bool a1_3, .int .i64 a1_4] 54 (0, 0)) (by (with_reducible repeat (first | refine bw_ ?_ _ | refine bx_ ?_ | refine bl_ ?_ _)); exact BK255.out)) : gb255 ≠ gb256)); have n6_ := am_ ((by rw [hg]; exact Nat.ne_of_gt (blk_lt (g := gb255) (o := .cells #[.int .i64 a1_0, .int .u64 a1_1, .slice A1_2 l1_2.length c1_2, .bool a1_3, .int .i64 a1_4] 54 (0, 0)) (by (with_reducible repeat (first | refine bw_ ?_ _ | refine bx_ ?_ | refine bl_ ?_ _)); exact BK255.out)) : gb256 ≠ gb255)); clear BK255; clear HB; have BK255 := n0_; have HB := n1_; have BK256 := n2_; have GW256 := n3_; have GE256 := n4_; have NB255_256 := n5_; have NB256_255 := n6_; clear n0_ n1_ n2_ n3_ n4_ n5_ n6_; clear hb hbox hg; have hnb121 := NB255_256.out; have hnc121 := NB256_255.out; have hcz122_0 : w120.cell? ⟨gb255, 0, none⟩ = some (.int .i64 a1_0) := (bc_ BK255.out 0).trans rfl; have hcz122_1 : w120.cell? ⟨gb255, 1, none⟩ = some (.int .u64 a1_1) := (bc_ BK255.out 1).trans rfl; have hcz122_2 : w120.cell? ⟨gb255, 2, none⟩ = some (.slice A1_2 l1_2.length c1_2) := (bc_ BK255.out 2).trans rfl; have hcz122_3 : w120.cell? ⟨gb255, 3, none⟩ = some (.bool a1_3) := (bc_ BK255.out 3).trans rfl; have hcz122_4 : w120.cell? ⟨gb255, 4, none⟩ = some (.int .i64 a1_4) := (bc_ BK255.out 4).trans rfl; have hfz122_0 := bf_ BK255.out 0; have hfz122_1 := bf_ BK255.out 1; have hfz122_2 := bf_ BK255.out 2; have hfz122_3 := bf_ BK255.out 3; have hfz122_4 := bf_ BK255.out 4; have p257 : 0 ≤ ((ji4) : Int) := od_ (by first | (with_reducible assumption) | assumption); have q257 : (ji4) < (l1_2.length : Int) := od_ (by first | (with_reducible assumption) | assumption); obtain ⟨ad257, e257, hx257_0⟩ := Kd.at_int HR1_2.out (ji4) p257 q257; cases e257; replace hx257_0 := (HB.out.cell (cl_ w _ hx257_0)).trans hx257_0; replace p257 := eq_true p257; replace q257 := eq_true q257; have hcz123_0 : w120.cell? ⟨gb256, 0, none⟩ = some (.int .i64 a2_0) := (bc_ BK256.out 0).trans rfl; have hcz123_1 : w120.cell? ⟨gb256, 1, none⟩ = some (.int .i64 a2_1) := (bc_ BK256.out 1).trans rfl; have hcz123_2 : w120.cell? ⟨gb256, 2, none⟩ = some (.int .u64 a2_2) := (bc_ BK256.out 2).trans rfl; have hcz123_3 : w120.cell? ⟨gb256, 3, none⟩ = some (.int .i64 a2_3) := (bc_ BK256.out 3).trans rfl; have hfz123_0 := bf_ BK256.out 0; have hfz123_1 := bf_ BK256.out 1; have hfz123_2 := bf_ BK256.out 2; have hfz123_3 := bf_ BK256.out 3))
      (try simp only [Act.put, sa_, sz_, ss_])
      go_cut [26] (fun v26 wc => ∃ (kq : Nat) (x26_117 : Bool), v26 = .bool x26_117 ∧ Aside0 (catenaryref09_can.j1 kq x26_117 a1_0 a1_1 l1_2 a1_3 a1_4 = some r) ∧ Aside0 (kq ≤ k) ∧ Aside0 (wc.heap[gb255]? = some (.cells #[.int .i64 a1_0, .int .u64 a1_1, (.slice (some ad257) l1_2.length c1_2), .bool a1_3, .int .i64 a1_4] 54 (0, 0))) ∧ Aside0 (wc.heap[gb256]? = some (.cells #[.int .i64 a2_0, .int .i64 a2_1, .int .u64 a2_2, .int .i64 a2_3] 24 (0, 0))) ∧ Aside0 (Below w.heap.size w wc))
      case first =>
       have H := HC118.out
       clear HC118
       by_cases c124 : a1_3 = true
       ·subst c124
        have H1 : (catenaryref09_can.j1 k ((rd l1_2 (ji4)) != a2_3) a1_0 a1_1 l1_2 true a1_4) = some r := by rw [if_pos rfl] at H; exact H
        clear H
        have H := H1
        clear H1
        have H' := am_ H
        clear H
        have hnb125 := NB255_256.out
        have hnc125 := NB256_255.out
        have hcz126_0 : w120.cell? ⟨gb255, 0, none⟩ = some (.int .i64 a1_0) := (bc_ BK255.out 0).trans rfl
        have hcz126_1 : w120.cell? ⟨gb255, 1, none⟩ = some (.int .u64 a1_1) := (bc_ BK255.out 1).trans rfl
        have hcz126_2 : w120.cell? ⟨gb255, 2, none⟩ = some (.slice (some ad257) l1_2.length c1_2) := (bc_ BK255.out 2).trans rfl
        have hcz126_3 : w120.cell? ⟨gb255, 3, none⟩ = some (.bool true) := (bc_ BK255.out 3).trans rfl
        have hcz126_4 : w120.cell? ⟨gb255, 4, none⟩ = some (.int .i64 a1_4) := (bc_ BK255.out 4).trans rfl
        have hfz126_0 := bf_ BK255.out 0
        have hfz126_1 := bf_ BK255.out 1
        have hfz126_2 := bf_ BK255.out 2
        have hfz126_3 := bf_ BK255.out 3
        have hfz126_4 := bf_ BK255.out 4
        have hcz127_0 : w120.cell? ⟨gb256, 0, none⟩ = some (.int .i64 a2_0) := (bc_ BK256.out 0).trans rfl
        have hcz127_1 : w120.cell? ⟨gb256, 1, none⟩ = some (.int .i64 a2_1) := (bc_ BK256.out 1).trans rfl
        have hcz127_2 : w120.cell? ⟨gb256, 2, none⟩ = some (.int .u64 a2_2) := (bc_ BK256.out 2).trans rfl
        have hcz127_3 : w120.cell? ⟨gb256, 3, none⟩ = some (.int .i64 a2_3) := (bc_ BK256.out 3).trans rfl
        have hfz127_0 := bf_ BK256.out 0
        have hfz127_1 := bf_ BK256.out 1
        have hfz127_2 := bf_ BK256.out 2
        have hfz127_3 := bf_ BK256.out 3
        go_wp2
        go_meet
        case rel => exact ⟨_, (((rd l1_2 (ji4)) != a2_3)), (by first | rfl | (simp; done) | (simp only [← hji4] <;> (first | rfl | simp)) | (simp [*]; done)), H', ⟨by first | omega | exact Nat.le_refl _⟩, ⟨by (with_reducible repeat (first | refine bw_ ?_ _ | refine bx_ ?_ | refine bl_ ?_ _)); exact BK255.out⟩, ⟨by (with_reducible repeat (first | refine bw_ ?_ _ | refine bx_ ?_ | refine bl_ ?_ _)); exact BK256.out⟩, ⟨by repeat (first | (with_reducible first | exact HB.out | apply ba_ | apply bn_ | apply bd_ | refine be_ ?_ GE255.out | refine be_ ?_ GE256.out) | exact HB.out)⟩⟩
       ·replace c124 := Bool.eq_false_iff.mpr c124
        subst c124
        have H1 : (catenaryref09_can.j1 k true a1_0 a1_1 l1_2 false a1_4) = some r := by rw [if_neg (show ¬ (false = true) by decide)] at H; exact H
        clear H
        have H := H1
        clear H1
        have H' := am_ H
        clear H
        have hnb128 := NB255_256.out
        have hnc128 := NB256_255.out
        have hcz129_0 : w120.cell? ⟨gb255, 0, none⟩ = some (.int .i64 a1_0) := (bc_ BK255.out 0).trans rfl
        have hcz129_1 : w120.cell? ⟨gb255, 1, none⟩ = some (.int .u64 a1_1) := (bc_ BK255.out 1).trans rfl
        have hcz129_2 : w120.cell? ⟨gb255, 2, none⟩ = some (.slice (some ad257) l1_2.length c1_2) := (bc_ BK255.out 2).trans rfl
        have hcz129_3 : w120.cell? ⟨gb255, 3, none⟩ = some (.bool false) := (bc_ BK255.out 3).trans rfl
        have hcz129_4 : w120.cell? ⟨gb255, 4, none⟩ = some (.int .i64 a1_4) := (bc_ BK255.out 4).trans rfl
        have hfz129_0 := bf_ BK255.out 0
        have hfz129_1 := bf_ BK255.out 1
        have hfz129_2 := bf_ BK255.out 2
        have hfz129_3 := bf_ BK255.out 3
        have hfz129_4 := bf_ BK255.out 4
        go_wp2
        go_meet
        case rel => exact ⟨_, (true), (by first | rfl | (simp; done) | (simp [*]; done)), H', ⟨by first | omega | exact Nat.le_refl _⟩, ⟨by (with_reducible repeat (first | refine bw_ ?_ _ | refine bx_ ?_ | refine bl_ ?_ _)); exact BK255.out⟩, ⟨by (with_reducible repeat (first | refine bw_ ?_ _ | refine bx_ ?_ | refine bl_ ?_ _)); exact BK256.out⟩, ⟨by repeat (first | (with_reducible first | exact HB.out | apply ba_ | apply bn_ | apply bd_ | refine be_ ?_ GE255.out | refine be_ ?_ GE256.out) | exact HB.out)⟩⟩
      case rest =>
       clear HC118
       try clear c1
       try clear c2
       try clear p2
       try clear q2
       try clear hx2
       try clear c3
       try clear c4
       try clear c5
       try clear c6
       try clear c7
       try clear c7b0
       try clear c7b1
       try clear c8
       try clear c9
       try clear c10
       try clear c11
       try clear c12
       try clear p25
       try clear q25
       try clear hx25
       try clear c27
       try clear c27b0
       try clear c27b1
       try clear c37
       try clear c39
       try clear c44
       try clear c58
       try clear c64
       try clear c64b0
       try clear c64b1
       try clear c66
       try clear c69
       try clear c74
       try clear c76
       try clear c80
       try clear c80b0
       try clear c80b1
       try clear c81
       try clear c83
       try clear c85
       try clear c86
       try clear c86b0
       try clear c86b1
       try clear c87
       try clear c89
       try clear c89b0
       try clear c89b1
       try clear c90
       try clear c92
       try clear c94
       try clear c94b0
       try clear c94b1
       try clear c95
       try clear c95b0
       try clear c95b1
       try clear c96
       try clear c96b0
       try clear c96b1
       try clear c99
       try clear c102
       try clear c102b0
       try clear c102b1
       try clear c105
       try clear c110
       try clear c115
       try clear c121
       try clear c124
       try clear c125
       try clear c128
       try clear hcz100_0
       try clear hcz100_1
       try clear hcz100_2
       try clear hcz100_3
       try clear hcz100_4
       try clear hcz101_0
       try clear hcz101_1
       try clear hcz101_2
       try clear hcz101_3
       try clear hcz106_0
       try clear hcz106_1
       try clear hcz106_2
       try clear hcz106_3
       try clear hcz106_4
       try clear hcz107_0
       try clear hcz107_1
       try clear hcz107_2
       try clear hcz107_3
       try clear hcz111_0
       try clear hcz111_1
       try clear hcz111_2
       try clear hcz111_3
       try clear hcz111_4
       try clear hcz112_0
       try clear hcz112_1
       try clear hcz112_2
       try clear hcz112_3
       try clear hcz116_0
       try clear hcz116_1
       try clear hcz116_2
       try clear hcz116_3
       try clear hcz116_4
       try clear hcz117_0
       try clear hcz117_1
       try clear hcz117_2
       try clear hcz117_3
       try clear hcz122_0
       try clear hcz122_1
       try clear hcz122_2
       try clear hcz122_3
       try clear hcz122_4
       try clear hcz123_0
       try clear hcz123_1
       try clear hcz123_2
       try clear hcz123_3
       try clear hcz126_0
       try clear hcz126_1
       try clear hcz126_2
       try clear hcz126_3
       try clear hcz126_4
       try clear hcz127_0
       try clear hcz127_1
       try clear hcz127_2
       try clear hcz127_3
       try clear hcz129_0
       try clear hcz129_1
       try clear hcz129_2
       try clear hcz129_3
       try clear hcz129_4
       try clear hcz41_0
       try clear hcz41_1
       try clear hcz41_2
       try clear hcz41_3
       try clear hcz41_4
       try clear hcz45_0
       try clear hcz45_1
       try clear hcz45_2
       try clear hcz45_3
       try clear hcz45_4
       try clear hcz46_0
       try clear hcz46_1
       try clear hcz46_2
       try clear hcz46_3
       try clear hcz55_0
       try clear hcz55_1
       try clear hcz55_2
       try clear hcz55_3
       try clear hcz55_4
       try clear hcz59_0
       try clear hcz59_1
       try clear hcz59_2
       try clear hcz59_3
       try clear hcz59_4
       try clear hcz60_0
       try clear hcz60_1
       try clear hcz60_2
       try clear hcz60_3
       try clear hcz70_0
       try clear hcz70_1
       try clear hcz70_2
       try clear hcz70_3
       try clear hcz70_4
       try clear hcz71_0
       try clear hcz71_1
       try clear hcz71_2
       try clear hcz71_3
       try clear hcz77_0
       try clear hcz77_1
       try clear hcz77_2
       try clear hcz77_3
       try clear hcz77_4
       try clear hcz78_0
       try clear hcz78_1
       try clear hcz78_2
       try clear hcz78_3
       try clear hcz82_0
       try clear hcz82_1
       try clear hcz82_2
       try clear hcz82_3
       try clear hcz82_4
       try clear hcz84_0
       try clear hcz84_1
       try clear hcz84_2
       try clear hcz84_3
       try clear hcz84_4
       try clear hcz88_0
       try clear hcz88_1
       try clear hcz88_2
       try clear hcz88_3
       try clear hcz88_4
       try clear hcz91_0
       try clear hcz91_1
       try clear hcz91_2
       try clear hcz91_3
       try clear hcz91_4
       try clear hcz93_0
       try clear hcz93_1
       try clear hcz93_2
       try clear hcz93_3
       try clear hcz93_4
       try clear hfz100_0
       try clear hfz100_1
       try clear hfz100_2
       try clear hfz100_3
       try clear hfz100_4
       try clear hfz101_0
       try clear hfz101_1
       try clear hfz101_2
       try clear hfz101_3
       try clear hfz106_0
       try clear hfz106_1
       try clear hfz106_2
       try clear hfz106_3
       try clear hfz106_4
       try clear hfz107_0
       try clear hfz107_1
       try clear hfz107_2
       try clear hfz107_3
       try clear hfz111_0
       try clear hfz111_1
       try clear hfz111_2
       try clear hfz111_3
       try clear hfz111_4
       try clear hfz112_0
       try clear hfz112_1
       try clear hfz112_2
       try clear hfz112_3
       try clear hfz116_0
       try clear hfz116_1
       try clear hfz116_2
       try clear hfz116_3
       try clear hfz116_4
       try clear hfz117_0
       try clear hfz117_1
       try clear hfz117_2
       try clear hfz117_3
       try clear hfz122_0
       try clear hfz122_1
       try clear hfz122_2
       try clear hfz122_3
       try clear hfz122_4
       try clear hfz123_0
       try clear hfz123_1
       try clear hfz123_2
       try clear hfz123_3
       try clear hfz126_0
       try clear hfz126_1
       try clear hfz126_2
       try clear hfz126_3
       try clear hfz126_4
       try clear hfz127_0
       try clear hfz127_1
       try clear hfz127_2
       try clear hfz127_3
       try clear hfz129_0
       try clear hfz129_1
       try clear hfz129_2
       try clear hfz129_3
       try clear hfz129_4
       try clear hfz41_0
       try clear hfz41_1
       try clear hfz41_2
       try clear hfz41_3
       try clear hfz41_4
       try clear hfz45_0
       try clear hfz45_1
       try clear hfz45_2
       try clear hfz45_3
       try clear hfz45_4
       try clear hfz46_0
       try clear hfz46_1
       try clear hfz46_2
       try clear hfz46_3
       try clear hfz55_0
       try clear hfz55_1
       try clear hfz55_2
       try clear hfz55_3
       try clear hfz55_4
       try clear hfz59_0
       try clear hfz59_1
       try clear hfz59_2
       try clear hfz59_3
       try clear hfz59_4
       try clear hfz60_0
       try clear hfz60_1
       try clear hfz60_2
       try clear hfz60_3
       try clear hfz70_0
       try clear hfz70_1
       try clear hfz70_2
       try clear hfz70_3
       try clear hfz70_4
       try clear hfz71_0
       try clear hfz71_1
       try clear hfz71_2
       try clear hfz71_3
       try clear hfz77_0
       try clear hfz77_1
       try clear hfz77_2
       try clear hfz77_3
       try clear hfz77_4
       try clear hfz78_0
       try clear hfz78_1
       try clear hfz78_2
       try clear hfz78_3
       try clear hfz82_0
       try clear hfz82_1
       try clear hfz82_2
       try clear hfz82_3
       try clear hfz82_4
       try clear hfz84_0
       try clear hfz84_1
       try clear hfz84_2
       try clear hfz84_3
       try clear hfz84_4
       try clear hfz88_0
       try clear hfz88_1
       try clear hfz88_2
       try clear hfz88_3
       try clear hfz88_4
       try clear hfz91_0
       try clear hfz91_1
       try clear hfz91_2
       try clear hfz91_3
       try clear hfz91_4
       try clear hfz93_0
       try clear hfz93_1
       try clear hfz93_2
       try clear hfz93_3
       try clear hfz93_4
       try clear hx257_0
       try clear p2
       try clear p25
       try clear p257
       try clear q2
       try clear q25
       try clear q257
       obtain ⟨kq, x26_117, rfl, HA, HJ117, BK255, BK256, HB⟩ := hcut
       cases kq with
       | zero => exact absurd HA.out (by simp [catenaryref09_can.j1])
       | succ kj117 =>
        have H := HA.out
        clear HA
        simp only [catenaryref09_can.j1] at H
        by_cases c130 : x26_117 = true
        ·subst c130
         have H1 : (some 7) = some r := by rw [if_pos rfl] at H; exact H
         clear H
         have H := H1
         clear H1
         obtain rfl := Option.some.inj H
         go_wp2
         go_ret
         exact ⟨by first | rfl | (simp [errW_none, errW_some] <;> rfl) | (simp only [← hji4]; first | rfl | (simp [errW_none, errW_some] <;> rfl)) | (simp [*, errW_none, errW_some] <;> rfl), by repeat (first | (with_reducible first | exact HB.out | apply ba_ | apply bn_ | apply bd_ | refine be_ ?_ GE255.out | refine be_ ?_ GE256.out) | exact HB.out)⟩
        ·replace c130 := Bool.eq_false_iff.mpr c130
         subst c130
         have H1 : (if a1_1 = 18446744073709551615 then (some 9) else (some 0)) = some r := by rw [if_neg (show ¬ (false = true) by decide)] at H; exact H
         clear H
         have H := H1
         clear H1
         by_cases c131 : a1_1 = 18446744073709551615
         ·rw [if_pos c131] at H
          have c131b0 : (a1_1 == 18446744073709551615) = true := beq_iff_eq.mpr c131
          have c131b1 : (a1_1 != 18446744073709551615) = false := bne_eq_false_iff_eq.mpr c131
          clear c131
          obtain rfl := Option.some.inj H
          have hnb132 := NB255_256.out
          have hnc132 := NB256_255.out
          have hcz133_0 : wc.cell? ⟨gb255, 0, none⟩ = some (.int .i64 a1_0) := (bc_ BK255.out 0).trans rfl
          have hcz133_1 : wc.cell? ⟨gb255, 1, none⟩ = some (.int .u64 a1_1) := (bc_ BK255.out 1).trans rfl
          have hcz133_2 : wc.cell? ⟨gb255, 2, none⟩ = some (.slice (some ad257) l1_2.length c1_2) := (bc_ BK255.out 2).trans rfl
          have hcz133_3 : wc.cell? ⟨gb255, 3, none⟩ = some (.bool a1_3) := (bc_ BK255.out 3).trans rfl
          have hcz133_4 : wc.cell? ⟨gb255, 4, none⟩ = some (.int .i64 a1_4) := (bc_ BK255.out 4).trans rfl
          have hfz133_0 := bf_ BK255.out 0
          have hfz133_1 := bf_ BK255.out 1
          have hfz133_2 := bf_ BK255.out 2
          have hfz133_3 := bf_ BK255.out 3
          have hfz133_4 := bf_ BK255.out 4
          go_wp2
          go_ret
          exact ⟨by first | rfl | (simp [errW_none, errW_some] <;> rfl) | (simp only [← hji4]; first | rfl | (simp [errW_none, errW_some] <;> rfl)) | (simp [*, errW_none, errW_some] <;> rfl), by repeat (first | (with_reducible first | exact HB.out | apply ba_ | apply bn_ | apply bd_ | refine be_ ?_ GE255.out | refine be_ ?_ GE256.out) | exact HB.out)⟩
         ·rw [if_neg c131] at H
          have c131b0 : (a1_1 == 18446744073709551615) = false := beq_eq_false_iff_ne.mpr c131
          have c131b1 : (a1_1 != 18446744073709551615) = true := bne_iff_ne.mpr c131
          obtain rfl := Option.some.inj H
          have hnb134 := NB255_256.out
          have hnc134 := NB256_255.out
          have hcz135_0 : wc.cell? ⟨gb255, 0, none⟩ = some (.int .i64 a1_0) := (bc_ BK255.out 0).trans rfl
          have hcz135_1 : wc.cell? ⟨gb255, 1, none⟩ = some (.int .u64 a1_1) := (bc_ BK255.out 1).trans rfl
          have hcz135_2 : wc.cell? ⟨gb255, 2, none⟩ = some (.slice (some ad257) l1_2.length c1_2) := (bc_ BK255.out 2).trans rfl
          have hcz135_3 : wc.cell? ⟨gb255, 3, none⟩ = some (.bool a1_3) := (bc_ BK255.out 3).trans rfl
          have hcz135_4 : wc.cell? ⟨gb255, 4, none⟩ = some (.int .i64 a1_4) := (bc_ BK255.out 4).trans rfl
          have hfz135_0 := bf_ BK255.out 0
          have hfz135_1 := bf_ BK255.out 1
          have hfz135_2 := bf_ BK255.out 2
          have hfz135_3 := bf_ BK255.out 3
          have hfz135_4 := bf_ BK255.out 4
          go_wp2
          go_ret
          exact ⟨by first | rfl | (simp [errW_none, errW_some] <;> rfl) | (simp only [← hji4]; first | rfl | (simp [errW_none, errW_some] <;> rfl)) | (simp [*, errW_none, errW_some] <;> rfl), by repeat (first | (with_reducible first | exact HB.out | apply ba_ | apply bn_ | apply bd_ | refine be_ ?_ GE255.out | refine be_ ?_ GE256.out) | exact HB.out)⟩
  ·rw [if_neg c6] at H
   exact absurd H (by simp)
 ·rw [if_neg c5] at H
  exact absurd H (by simp)
end Go.Proofs.YtlpkandfmbnlnaaDoor.Q
end
