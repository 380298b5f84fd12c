/- What the proof of the claim leans on, of these texts: Q9, Q10; only what is used. -/
import Derived.Deep.RegionWith
import Derived.Handy
import Derived.Laws.StructEq
import Derived.LoopTactic
import Derived.Test.YtlpkandfmbnlnaaDoorK1
import Derived.Test.YtlpkandfmbnlnaaDoorK2
import Derived.Test.YtlpkandfmbnlnaaDoorK3
import Derived.Test.YtlpkandfmbnlnaaDoorK4
import Derived.Test.YtlpkandfmbnlnaaDoorK5
namespace Go.Proofs.YtlpkandfmbnlnaaDoor
end Go.Proofs.YtlpkandfmbnlnaaDoor
namespace Go.Proofs.YtlpkandfmbnlnaaDoor.Cmd
end Go.Proofs.YtlpkandfmbnlnaaDoor.Cmd
namespace Go.Proofs.YtlpkandfmbnlnaaDoor.Fix
end Go.Proofs.YtlpkandfmbnlnaaDoor.Fix
namespace Go.Proofs.YtlpkandfmbnlnaaDoor.Laid
end Go.Proofs.YtlpkandfmbnlnaaDoor.Laid
namespace Go.Proofs.YtlpkandfmbnlnaaDoor.Mem
end Go.Proofs.YtlpkandfmbnlnaaDoor.Mem
namespace Go.Proofs.YtlpkandfmbnlnaaDoor.Num
end Go.Proofs.YtlpkandfmbnlnaaDoor.Num
namespace Go.Proofs.YtlpkandfmbnlnaaDoor.Opn
end Go.Proofs.YtlpkandfmbnlnaaDoor.Opn
namespace Go.Proofs.YtlpkandfmbnlnaaDoor.Q
end Go.Proofs.YtlpkandfmbnlnaaDoor.Q
namespace Go.Proofs.YtlpkandfmbnlnaaDoor.R
end Go.Proofs.YtlpkandfmbnlnaaDoor.R
namespace Go.Proofs.YtlpkandfmbnlnaaDoor.Ref
end Go.Proofs.YtlpkandfmbnlnaaDoor.Ref
namespace Go.Proofs.YtlpkandfmbnlnaaDoor.Str
end Go.Proofs.YtlpkandfmbnlnaaDoor.Str
namespace Go.Proofs.YtlpkandfmbnlnaaDoor.Txt
end Go.Proofs.YtlpkandfmbnlnaaDoor.Txt
namespace Go.Proofs.YtlpkandfmbnlnaaDoor.confDoes
end Go.Proofs.YtlpkandfmbnlnaaDoor.confDoes
namespace Go.Proofs.YtlpkandfmbnlnaaDoorW.PrintLast
end Go.Proofs.YtlpkandfmbnlnaaDoorW.PrintLast
namespace Go.Proofs.YtlpkandfmbnlnaaDoorW.PrintMore
end Go.Proofs.YtlpkandfmbnlnaaDoorW.PrintMore
namespace Go.Proofs.YtlpkandfmbnlnaaDoorW.PrintWords
end Go.Proofs.YtlpkandfmbnlnaaDoorW.PrintWords
section
namespace Go.Proofs.YtlpkandfmbnlnaaDoor.Q
end Go.Proofs.YtlpkandfmbnlnaaDoor.Q
namespace Go.Proofs.YtlpkandfmbnlnaaDoor.R
end Go.Proofs.YtlpkandfmbnlnaaDoor.R
namespace Go.Proofs.YtlpkandfmbnlnaaDoor.Q
open Go.RowKit Go.Proofs.YtlpkandfmbnlnaaDoorW.PrintWords Go.Proofs.YtlpkandfmbnlnaaDoorW.PrintLast Go.Proofs.YtlpkandfmbnlnaaDoorW.PrintMore
attribute [local go_sem] max2_int min2_int max_two min_two max_three min_three max_four min_four   -- for this text's walks alone
set_option linter.unusedVariables false
set_option linter.unusedSimpArgs false
open Go.Proofs.YtlpkandfmbnlnaaDoor.Q Go.Proofs.YtlpkandfmbnlnaaDoor.R
def catenaryref09_Can.f (k : Nat) (l0 : List (S54)) (a1_0 : Int) (a1_1 : Int) (a1_2 : Int) (a1_3 : Int) : Option (Int) := (catenaryref09_All.f k l0).bind fun t270 => (if t270 = true then ((catenaryref08_Check.f a1_0 a1_1 a1_2 a1_3).bind fun t271 => (if t271 = 0 then (if a1_0 = 0 then (some 0) else (if a1_1 ≥ (l0.length : Int) then (some 7) else (if 0 ≤ a1_1 then (if a1_1 < (l0.length : Int) then (if ((rd_T54 l0 a1_1).f1) = a1_2 then ((catenaryref09_can.f k l0 ((rd_T54 l0 a1_1).f0) ((rd_T54 l0 a1_1).f1) ((rd_T54 l0 a1_1).f2) ((rd_T54 l0 a1_1).f3) ((rd_T54 l0 a1_1).f4) a1_0 a1_1 a1_2 a1_3).bind fun t274 => (some t274)) else (some 10)) else (none)) else (none)))) else (some t271))) else (some 1))
def catenaryref09_Can.T10 : Bool × List (List Nat × List Nat) := (true, [([], []), ([], []), ([1], [1]), ([0, 2], [0, 2]), ([3], [3]), ([4], [4]), ([], []), ([6], [6]), ([5, 7], [5, 7])])
def catenaryref09_Can.B10 : List Nat := [0, 0, 2, 7, 15, 31, 0, 64, 255]
theorem catenaryref09_Can.tab10 : rtab .any (opsOf Tryd.f27 10) = catenaryref09_Can.T10 := by kernel_rfl
theorem catenaryref09_Can.bits10 : waitsOk catenaryref09_Can.T10.2 catenaryref09_Can.B10 = true := by kernel_rfl
def catenaryref09_Can.T12 : Bool × List (List Nat × List Nat) := (true, [([], []), ([], []), ([], []), ([2], [2]), ([1, 3], [1, 3]), ([4], [4]), ([], []), ([0, 5, 6], [0, 5, 6]), ([7, 7, 0, 1, 2, 3, 4, 5, 6, 7], [7])])
def catenaryref09_Can.B12 : List Nat := [0, 0, 0, 4, 14, 30, 0, 127, 255]
theorem catenaryref09_Can.tab12 : rtab .any (opsOf Tryd.f27 12) = catenaryref09_Can.T12 := by kernel_rfl
theorem catenaryref09_Can.bits12 : waitsOk catenaryref09_Can.T12.2 catenaryref09_Can.B12 = true := by kernel_rfl
set_option maxHeartbeats 8000000 in
set_option maxRecDepth 100000 in
theorem catenaryref09_Can.calls (k : Nat) (A0 : Option Addr) (c0 : Nat) (l0 : List (S54)) (a1_0 : Int) (a1_1 : Int) (a1_2 : Int) (a1_3 : Int) (r : Int) (w : World) (hr0 : Kd.C k54 w A0 l0.length l0) (hc0 : l0.length ≤ c0) (h : catenaryref09_Can.f k l0 a1_0 a1_1 a1_2 a1_3 = some r) :
  Calls Tryd.prog 27 #[.slice A0 l0.length c0, .agg #[.int .i64 a1_0, .int .i64 a1_1, .int .u64 a1_2, .int .i64 a1_3]] w fun e w' => e = .returned (.int .i64 r) ∧ Below w.heap.size w w' := by
 have hu24 := Tryd.underlying24
 have hu54 := Tryd.underlying54
 have HR0 := am_ hr0
 have HC0 := am_ hc0
 clear hr0 hc0
 have HB := am_ (Below.refl w.heap.size w)
 have H : ((catenaryref09_All.f k l0).bind fun t270 => (if t270 = true then ((catenaryref08_Check.f a1_0 a1_1 a1_2 a1_3).bind fun t271 => (if t271 = 0 then (if a1_0 = 0 then (some 0) else (if a1_1 ≥ (l0.length : Int) then (some 7) else (if 0 ≤ a1_1 then (if a1_1 < (l0.length : Int) then (if ((rd_T54 l0 a1_1).f1) = a1_2 then ((catenaryref09_can.f k l0 ((rd_T54 l0 a1_1).f0) ((rd_T54 l0 a1_1).f1) ((rd_T54 l0 a1_1).f2) ((rd_T54 l0 a1_1).f3) ((rd_T54 l0 a1_1).f4) a1_0 a1_1 a1_2 a1_3).bind fun t274 => (some t274)) else (some 10)) else (none)) else (none)))) else (some t271))) else (some 1))) = some r := h
 clear h
 replace H := Option.bind_eq_some_iff.mp H
 obtain ⟨t270, A30, H⟩ := H
 replace H : (if t270 = true then ((catenaryref08_Check.f a1_0 a1_1 a1_2 a1_3).bind fun t271 => (if t271 = 0 then (if a1_0 = 0 then (some 0) else (if a1_1 ≥ (l0.length : Int) then (some 7) else (if 0 ≤ a1_1 then (if a1_1 < (l0.length : Int) then (if ((rd_T54 l0 a1_1).f1) = a1_2 then ((catenaryref09_can.f k l0 ((rd_T54 l0 a1_1).f0) ((rd_T54 l0 a1_1).f1) ((rd_T54 l0 a1_1).f2) ((rd_T54 l0 a1_1).f3) ((rd_T54 l0 a1_1).f4) a1_0 a1_1 a1_2 a1_3).bind fun t274 => (some t274)) else (some 10)) else (none)) else (none)))) else (some t271))) else (some 1)) = some r := H
 have A3 := am_ A30
 clear A30
 by_cases c4 : t270 = true
 ·subst c4
  have H1 : ((catenaryref08_Check.f a1_0 a1_1 a1_2 a1_3).bind fun t271 => (if t271 = 0 then (if a1_0 = 0 then (some 0) else (if a1_1 ≥ (l0.length : Int) then (some 7) else (if 0 ≤ a1_1 then (if a1_1 < (l0.length : Int) then (if ((rd_T54 l0 a1_1).f1) = a1_2 then ((catenaryref09_can.f k l0 ((rd_T54 l0 a1_1).f0) ((rd_T54 l0 a1_1).f1) ((rd_T54 l0 a1_1).f2) ((rd_T54 l0 a1_1).f3) ((rd_T54 l0 a1_1).f4) a1_0 a1_1 a1_2 a1_3).bind fun t274 => (some t274)) else (some 10)) else (none)) else (none)))) else (some t271))) = some r := by rw [if_pos rfl] at H; exact H
  clear H
  have H := H1
  clear H1
  replace H := Option.bind_eq_some_iff.mp H
  obtain ⟨t271, A50, H⟩ := H
  replace H : (if t271 = 0 then (if a1_0 = 0 then (some 0) else (if a1_1 ≥ (l0.length : Int) then (some 7) else (if 0 ≤ a1_1 then (if a1_1 < (l0.length : Int) then (if ((rd_T54 l0 a1_1).f1) = a1_2 then ((catenaryref09_can.f k l0 ((rd_T54 l0 a1_1).f0) ((rd_T54 l0 a1_1).f1) ((rd_T54 l0 a1_1).f2) ((rd_T54 l0 a1_1).f3) ((rd_T54 l0 a1_1).f4) a1_0 a1_1 a1_2 a1_3).bind fun t274 => (some t274)) else (some 10)) else (none)) else (none)))) else (some t271)) = some r := H
  have A5 := am_ A50
  clear A50
  by_cases c6 : t271 = 0
  ·rw [if_pos c6] at H
   have c6b0 : (t271 == 0) = true := beq_iff_eq.mpr c6
   have c6b1 : (t271 != 0) = false := bne_eq_false_iff_eq.mpr c6
   clear c6
   by_cases c7 : a1_0 = 0
   ·rw [if_pos c7] at H
    have c7b0 : (a1_0 == 0) = true := beq_iff_eq.mpr c7
    have c7b1 : (a1_0 != 0) = false := bne_eq_false_iff_eq.mpr c7
    clear c7
    obtain rfl := Option.some.inj H
    go_enter Tryd.func27, Tryd.ntmps27
    go_wp2_with (first | ((with_reducible refine gate_dst (N := 3) rfl ?_); refine box_event ?hg (N := 3) ?hd (cs := #[.int .i64 a1_0, .int .i64 a1_1, .int .u64 a1_2, .int .i64 a1_3]) (t := 24) ?hr ?_; (case hd => rfl); (case hg => rfl); (case hr => first | (go_simp; done) | (go_simp; rfl)); intro gb269 hg w8 hbox hb; have n0_ := am_ (bt_ (by repeat (first | (with_reducible first | exact HB.out | apply ba_ | apply bn_ | apply bd_) | exact HB.out)) hb); have n1_ := am_ (hbox); have n2_ := am_ ((by rw [hg]; exact (bs_ (by repeat (first | (with_reducible first | exact HB.out | apply ba_ | apply bn_ | apply bd_) | exact HB.out))) : w.heap.size ≤ gb269)); have n3_ := am_ ((by rw [hg]; exact (bs_ (by repeat (first | (with_reducible first | exact HB.out | apply ba_ | apply bn_ | apply bd_) | exact HB.out))) : w.heap.size ≤ gb269)); clear HB; have HB := n0_; have BK269 := n1_; have GW269 := n2_; have GE269 := n3_; clear n0_ n1_ n2_ n3_; clear hb hbox hg) | ((with_reducible refine gate_callee (f := 34) rfl ?_); refine goesL_ (some 7) rfl rfl Tryd.func34 (by kernel_rfl) rfl #[.slice A0 l0.length c0] rfl (by (try simp only [List.map_toArray, List.map_cons, List.map_nil]); first | done | rfl | (simp only [List.length_drop, lt_]; rfl)) ?_; (with_reducible refine (catenaryref09_All.calls k _ _ l0 true _ ?side1 ?side2 A3.out).mono ?_); (case side1 => repeat (first | exact (Kd.C_below HR0.out HB.out) | (with_reducible refine Kd.C_alloc ?_ _) | (with_reducible refine Kd.C_drewN ?_ _) | (with_reducible refine Kd.C_drew ?_))); (case side2 => exact HC0.out); rintro e w9 ⟨rfl, hb⟩; refine ⟨_, rfl, ?_⟩; have n0_ := am_ (blk_below (g := gb269) (o := .cells #[.int .i64 a1_0, .int .i64 a1_1, .int .u64 a1_2, .int .i64 a1_3] 24 (0, 0)) (by (with_reducible repeat (first | refine bw_ ?_ _ | refine bx_ ?_ | refine bl_ ?_ _)); exact BK269.out) hb); have n1_ := am_ (bt_ (by repeat (first | (with_reducible first | exact HB.out | apply ba_ | apply bn_ | apply bd_ | refine be_ ?_ GE269.out) | exact HB.out)) hb); clear BK269; clear HB; have BK269 := n0_; have HB := n1_; clear n0_ n1_; (try clear hb); (try clear hb2); (try clear hk); (try clear hi); have hcz10_0 : w9.cell? ⟨gb269, 0, none⟩ = some (.int .i64 a1_0) := (bc_ BK269.out 0).trans rfl; have hcz10_1 : w9.cell? ⟨gb269, 1, none⟩ = some (.int .i64 a1_1) := (bc_ BK269.out 1).trans rfl; have hcz10_2 : w9.cell? ⟨gb269, 2, none⟩ = some (.int .u64 a1_2) := (bc_ BK269.out 2).trans rfl; have hcz10_3 : w9.cell? ⟨gb269, 3, none⟩ = some (.int .i64 a1_3) := (bc_ BK269.out 3).trans rfl; have hfz10_0 := bf_ BK269.out 0; have hfz10_1 := bf_ BK269.out 1; have hfz10_2 := bf_ BK269.out 2; have hfz10_3 := bf_ BK269.out 3) | ((with_reducible refine gate_callee (f := 9) rfl ?_); refine goesL_ (some 10) rfl rfl Tryd.func9 (by kernel_rfl) rfl #[.agg #[.int .i64 a1_0, .int .i64 a1_1, .int .u64 a1_2, .int .i64 a1_3]] rfl (by (try simp only [List.map_toArray, List.map_cons, List.map_nil]); first | done | rfl | (simp only [List.length_drop, lt_]; rfl)) ?_; (with_reducible refine (catenaryref08_Check.calls a1_0 a1_1 a1_2 a1_3 t271 _ A5.out).mono ?_); rintro e w11 ⟨rfl, hb⟩; refine ⟨_, rfl, ?_⟩; have n0_ := am_ (blk_below (g := gb269) (o := .cells #[.int .i64 a1_0, .int .i64 a1_1, .int .u64 a1_2, .int .i64 a1_3] 24 (0, 0)) (by (with_reducible repeat (first | refine bw_ ?_ _ | refine bx_ ?_ | refine bl_ ?_ _)); exact BK269.out) hb); have n1_ := am_ (bt_ (by repeat (first | (with_reducible first | exact HB.out | apply ba_ | apply bn_ | apply bd_ | refine be_ ?_ GE269.out) | exact HB.out)) hb); clear BK269; clear HB; have BK269 := n0_; have HB := n1_; clear n0_ n1_; (try clear hb); (try clear hb2); (try clear hk); (try clear hi); have hcz12_0 : w11.cell? ⟨gb269, 0, none⟩ = some (.int .i64 a1_0) := (bc_ BK269.out 0).trans rfl; have hcz12_1 : w11.cell? ⟨gb269, 1, none⟩ = some (.int .i64 a1_1) := (bc_ BK269.out 1).trans rfl; have hcz12_2 : w11.cell? ⟨gb269, 2, none⟩ = some (.int .u64 a1_2) := (bc_ BK269.out 2).trans rfl; have hcz12_3 : w11.cell? ⟨gb269, 3, none⟩ = some (.int .i64 a1_3) := (bc_ BK269.out 3).trans rfl; have hfz12_0 := bf_ BK269.out 0; have hfz12_1 := bf_ BK269.out 1; have hfz12_2 := bf_ BK269.out 2; have hfz12_3 := bf_ BK269.out 3))
    go_ret
    exact ⟨by first | rfl | (simp [errW_none, errW_some] <;> rfl) | (simp [*, errW_none, errW_some] <;> rfl), by repeat (first | (with_reducible first | exact HB.out | apply ba_ | apply bn_ | apply bd_ | refine be_ ?_ GE269.out) | exact HB.out)⟩
   ·rw [if_neg c7] at H
    have c7b0 : (a1_0 == 0) = false := beq_eq_false_iff_ne.mpr c7
    have c7b1 : (a1_0 != 0) = true := bne_iff_ne.mpr c7
    by_cases c13 : a1_1 ≥ (l0.length : Int)
    ·rw [if_pos c13] at H
     have c13b0 : decide ((l0.length : Int) ≤ a1_1) = true := decide_eq_true c13
     clear c13
     obtain rfl := Option.some.inj H
     go_enter Tryd.func27, Tryd.ntmps27
     go_wp2_with (first | ((with_reducible refine gate_dst (N := 3) rfl ?_); refine box_event ?hg (N := 3) ?hd (cs := #[.int .i64 a1_0, .int .i64 a1_1, .int .u64 a1_2, .int .i64 a1_3]) (t := 24) ?hr ?_; (case hd => rfl); (case hg => rfl); (case hr => first | (go_simp; done) | (go_simp; rfl)); intro gb269 hg w14 hbox hb; have n0_ := am_ (bt_ (by repeat (first | (with_reducible first | exact HB.out | apply ba_ | apply bn_ | apply bd_) | exact HB.out)) hb); have n1_ := am_ (hbox); have n2_ := am_ ((by rw [hg]; exact (bs_ (by repeat (first | (with_reducible first | exact HB.out | apply ba_ | apply bn_ | apply bd_) | exact HB.out))) : w.heap.size ≤ gb269)); have n3_ := am_ ((by rw [hg]; exact (bs_ (by repeat (first | (with_reducible first | exact HB.out | apply ba_ | apply bn_ | apply bd_) | exact HB.out))) : w.heap.size ≤ gb269)); clear HB; have HB := n0_; have BK269 := n1_; have GW269 := n2_; have GE269 := n3_; clear n0_ n1_ n2_ n3_; clear hb hbox hg) | ((with_reducible refine gate_callee (f := 34) rfl ?_); refine goesL_ (some 7) rfl rfl Tryd.func34 (by kernel_rfl) rfl #[.slice A0 l0.length c0] rfl (by (try simp only [List.map_toArray, List.map_cons, List.map_nil]); first | done | rfl | (simp only [List.length_drop, lt_]; rfl)) ?_; (with_reducible refine (catenaryref09_All.calls k _ _ l0 true _ ?side1 ?side2 A3.out).mono ?_); (case side1 => repeat (first | exact (Kd.C_below HR0.out HB.out) | (with_reducible refine Kd.C_alloc ?_ _) | (with_reducible refine Kd.C_drewN ?_ _) | (with_reducible refine Kd.C_drew ?_))); (case side2 => exact HC0.out); rintro e w15 ⟨rfl, hb⟩; refine ⟨_, rfl, ?_⟩; have n0_ := am_ (blk_below (g := gb269) (o := .cells #[.int .i64 a1_0, .int .i64 a1_1, .int .u64 a1_2, .int .i64 a1_3] 24 (0, 0)) (by (with_reducible repeat (first | refine bw_ ?_ _ | refine bx_ ?_ | refine bl_ ?_ _)); exact BK269.out) hb); have n1_ := am_ (bt_ (by repeat (first | (with_reducible first | exact HB.out | apply ba_ | apply bn_ | apply bd_ | refine be_ ?_ GE269.out) | exact HB.out)) hb); clear BK269; clear HB; have BK269 := n0_; have HB := n1_; clear n0_ n1_; (try clear hb); (try clear hb2); (try clear hk); (try clear hi); have hcz16_0 : w15.cell? ⟨gb269, 0, none⟩ = some (.int .i64 a1_0) := (bc_ BK269.out 0).trans rfl; have hcz16_1 : w15.cell? ⟨gb269, 1, none⟩ = some (.int .i64 a1_1) := (bc_ BK269.out 1).trans rfl; have hcz16_2 : w15.cell? ⟨gb269, 2, none⟩ = some (.int .u64 a1_2) := (bc_ BK269.out 2).trans rfl; have hcz16_3 : w15.cell? ⟨gb269, 3, none⟩ = some (.int .i64 a1_3) := (bc_ BK269.out 3).trans rfl; have hfz16_0 := bf_ BK269.out 0; have hfz16_1 := bf_ BK269.out 1; have hfz16_2 := bf_ BK269.out 2; have hfz16_3 := bf_ BK269.out 3) | ((with_reducible refine gate_callee (f := 9) rfl ?_); refine goesL_ (some 10) rfl rfl Tryd.func9 (by kernel_rfl) rfl #[.agg #[.int .i64 a1_0, .int .i64 a1_1, .int .u64 a1_2, .int .i64 a1_3]] rfl (by (try simp only [List.map_toArray, List.map_cons, List.map_nil]); first | done | rfl | (simp only [List.length_drop, lt_]; rfl)) ?_; (with_reducible refine (catenaryref08_Check.calls a1_0 a1_1 a1_2 a1_3 t271 _ A5.out).mono ?_); rintro e w17 ⟨rfl, hb⟩; refine ⟨_, rfl, ?_⟩; have n0_ := am_ (blk_below (g := gb269) (o := .cells #[.int .i64 a1_0, .int .i64 a1_1, .int .u64 a1_2, .int .i64 a1_3] 24 (0, 0)) (by (with_reducible repeat (first | refine bw_ ?_ _ | refine bx_ ?_ | refine bl_ ?_ _)); exact BK269.out) hb); have n1_ := am_ (bt_ (by repeat (first | (with_reducible first | exact HB.out | apply ba_ | apply bn_ | apply bd_ | refine be_ ?_ GE269.out) | exact HB.out)) hb); clear BK269; clear HB; have BK269 := n0_; have HB := n1_; clear n0_ n1_; (try clear hb); (try clear hb2); (try clear hk); (try clear hi); have hcz18_0 : w17.cell? ⟨gb269, 0, none⟩ = some (.int .i64 a1_0) := (bc_ BK269.out 0).trans rfl; have hcz18_1 : w17.cell? ⟨gb269, 1, none⟩ = some (.int .i64 a1_1) := (bc_ BK269.out 1).trans rfl; have hcz18_2 : w17.cell? ⟨gb269, 2, none⟩ = some (.int .u64 a1_2) := (bc_ BK269.out 2).trans rfl; have hcz18_3 : w17.cell? ⟨gb269, 3, none⟩ = some (.int .i64 a1_3) := (bc_ BK269.out 3).trans rfl; have hfz18_0 := bf_ BK269.out 0; have hfz18_1 := bf_ BK269.out 1; have hfz18_2 := bf_ BK269.out 2; have hfz18_3 := bf_ BK269.out 3))
     go_ret
     exact ⟨by first | rfl | (simp [errW_none, errW_some] <;> rfl) | (simp [*, errW_none, errW_some] <;> rfl), by repeat (first | (with_reducible first | exact HB.out | apply ba_ | apply bn_ | apply bd_ | refine be_ ?_ GE269.out) | exact HB.out)⟩
    ·rw [if_neg c13] at H
     have c13b0 : decide ((l0.length : Int) ≤ a1_1) = false := decide_eq_false c13
     clear c13
     by_cases c19 : 0 ≤ a1_1
     ·rw [if_pos c19] at H
      have c19b0 : decide (0 ≤ a1_1) = true := decide_eq_true c19
      clear c19
      by_cases c20 : a1_1 < (l0.length : Int)
      ·rw [if_pos c20] at H
       have c20b0 : decide (a1_1 < (l0.length : Int)) = true := decide_eq_true c20
       clear c20
       by_cases c21 : ((rd_T54 l0 a1_1).f1) = a1_2
       ·rw [if_pos c21] at H
        have c21b0 : (((rd_T54 l0 a1_1).f1) == a1_2) = true := beq_iff_eq.mpr c21
        have c21b1 : (((rd_T54 l0 a1_1).f1) != a1_2) = false := bne_eq_false_iff_eq.mpr c21
        clear c21
        replace H := Option.bind_eq_some_iff.mp H
        obtain ⟨t274, A220, H⟩ := H
        replace H : (some t274) = some r := H
        have A22 := am_ A220
        clear A220
        obtain rfl := Option.some.inj H
        go_enter Tryd.func27, Tryd.ntmps27
        try go_wp2_with (first | ((with_reducible refine gate_dst (N := 3) rfl ?_); refine box_event ?hg (N := 3) ?hd (cs := #[.int .i64 a1_0, .int .i64 a1_1, .int .u64 a1_2, .int .i64 a1_3]) (t := 24) ?hr ?_; (case hd => rfl); (case hg => rfl); (case hr => first | (go_simp; done) | (go_simp; rfl)); intro gb269 hg w23 hbox hb; have n0_ := am_ (bt_ (by repeat (first | (with_reducible first | exact HB.out | apply ba_ | apply bn_ | apply bd_) | exact HB.out)) hb); have n1_ := am_ (hbox); have n2_ := am_ ((by rw [hg]; exact (bs_ (by repeat (first | (with_reducible first | exact HB.out | apply ba_ | apply bn_ | apply bd_) | exact HB.out))) : w.heap.size ≤ gb269)); have n3_ := am_ ((by rw [hg]; exact (bs_ (by repeat (first | (with_reducible first | exact HB.out | apply ba_ | apply bn_ | apply bd_) | exact HB.out))) : w.heap.size ≤ gb269)); clear HB; have HB := n0_; have BK269 := n1_; have GW269 := n2_; have GE269 := n3_; clear n0_ n1_ n2_ n3_; clear hb hbox hg) | ((with_reducible refine gate_callee (f := 34) rfl ?_); refine goesL_ (some 7) rfl rfl Tryd.func34 (by kernel_rfl) rfl #[.slice A0 l0.length c0] rfl (by (try simp only [List.map_toArray, List.map_cons, List.map_nil]); first | done | rfl | (simp only [List.length_drop, lt_]; rfl)) ?_; (with_reducible refine (catenaryref09_All.calls k _ _ l0 true _ ?side1 ?side2 A3.out).mono ?_); (case side1 => repeat (first | exact (Kd.C_below HR0.out HB.out) | (with_reducible refine Kd.C_alloc ?_ _) | (with_reducible refine Kd.C_drewN ?_ _) | (with_reducible refine Kd.C_drew ?_))); (case side2 => exact HC0.out); rintro e w24 ⟨rfl, hb⟩; refine ⟨_, rfl, ?_⟩; have n0_ := am_ (blk_below (g := gb269) (o := .cells #[.int .i64 a1_0, .int .i64 a1_1, .int .u64 a1_2, .int .i64 a1_3] 24 (0, 0)) (by (with_reducible repeat (first | refine bw_ ?_ _ | refine bx_ ?_ | refine bl_ ?_ _)); exact BK269.out) hb); have n1_ := am_ (bt_ (by repeat (first | (with_reducible first | exact HB.out | apply ba_ | apply bn_ | apply bd_ | refine be_ ?_ GE269.out) | exact HB.out)) hb); clear BK269; clear HB; have BK269 := n0_; have HB := n1_; clear n0_ n1_; (try clear hb); (try clear hb2); (try clear hk); (try clear hi); have hcz25_0 : w24.cell? ⟨gb269, 0, none⟩ = some (.int .i64 a1_0) := (bc_ BK269.out 0).trans rfl; have hcz25_1 : w24.cell? ⟨gb269, 1, none⟩ = some (.int .i64 a1_1) := (bc_ BK269.out 1).trans rfl; have hcz25_2 : w24.cell? ⟨gb269, 2, none⟩ = some (.int .u64 a1_2) := (bc_ BK269.out 2).trans rfl; have hcz25_3 : w24.cell? ⟨gb269, 3, none⟩ = some (.int .i64 a1_3) := (bc_ BK269.out 3).trans rfl; have hfz25_0 := bf_ BK269.out 0; have hfz25_1 := bf_ BK269.out 1; have hfz25_2 := bf_ BK269.out 2; have hfz25_3 := bf_ BK269.out 3) | ((with_reducible refine gate_callee (f := 9) rfl ?_); refine goesL_ (some 10) rfl rfl Tryd.func9 (by kernel_rfl) rfl #[.agg #[.int .i64 a1_0, .int .i64 a1_1, .int .u64 a1_2, .int .i64 a1_3]] rfl (by (try simp only [List.map_toArray, List.map_cons, List.map_nil]); first | done | rfl | (simp only [List.length_drop, lt_]; rfl)) ?_; (with_reducible refine (catenaryref08_Check.calls a1_0 a1_1 a1_2 a1_3 t271 _ A5.out).mono ?_); rintro e w26 ⟨rfl, hb⟩; refine ⟨_, rfl, ?_⟩; have n0_ := am_ (blk_below (g := gb269) (o := .cells #[.int .i64 a1_0, .int .i64 a1_1, .int .u64 a1_2, .int .i64 a1_3] 24 (0, 0)) (by (with_reducible repeat (first | refine bw_ ?_ _ | refine bx_ ?_ | refine bl_ ?_ _)); exact BK269.out) hb); have n1_ := am_ (bt_ (by repeat (first | (with_reducible first | exact HB.out | apply ba_ | apply bn_ | apply bd_ | refine be_ ?_ GE269.out) | exact HB.out)) hb); clear BK269; clear HB; have BK269 := n0_; have HB := n1_; clear n0_ n1_; (try clear hb); (try clear hb2); (try clear hk); (try clear hi); have hcz27_0 : w26.cell? ⟨gb269, 0, none⟩ = some (.int .i64 a1_0) := (bc_ BK269.out 0).trans rfl; have hcz27_1 : w26.cell? ⟨gb269, 1, none⟩ = some (.int .i64 a1_1) := (bc_ BK269.out 1).trans rfl; have hcz27_2 : w26.cell? ⟨gb269, 2, none⟩ = some (.int .u64 a1_2) := (bc_ BK269.out 2).trans rfl; have hcz27_3 : w26.cell? ⟨gb269, 3, none⟩ = some (.int .i64 a1_3) := (bc_ BK269.out 3).trans rfl; have hfz27_0 := bf_ BK269.out 0; have hfz27_1 := bf_ BK269.out 1; have hfz27_2 := bf_ BK269.out 2; have hfz27_3 := bf_ BK269.out 3))
        have n0_ := am_ (bx_ BK269.out)
        have n1_ := am_ (bd_ HB.out)
        clear BK269
        clear HB
        have BK269 := n0_
        have HB := n1_
        clear n0_ n1_
        have p272 : 0 ≤ (a1_1 : Int) := od_ (by first | (with_reducible assumption) | assumption)
        have q272 : a1_1 < (l0.length : Int) := od_ (by first | (with_reducible assumption) | assumption)
        obtain ⟨ad272, A272_2, c272_2, e272, hx272_0, hx272_1, hx272_2, hx272_3, hx272_4, hl272_2, hi272_2⟩ := at_T54 HR0.out a1_1 p272 q272
        have hw272_4 := hx272_4
        have hw272_3 := hx272_3
        have hw272_2 := hx272_2
        have hw272_1 := hx272_1
        have hw272_0 := hx272_0
        cases e272
        replace hx272_0 := (HB.out.cell (cl_ w _ hx272_0)).trans hx272_0
        replace hx272_1 := (HB.out.cell (cl_ w _ hx272_1)).trans hx272_1
        replace hx272_2 := (HB.out.cell (cl_ w _ hx272_2)).trans hx272_2
        replace hx272_3 := (HB.out.cell (cl_ w _ hx272_3)).trans hx272_3
        replace hx272_4 := (HB.out.cell (cl_ w _ hx272_4)).trans hx272_4
        have HR272_2 := am_ hi272_2
        have HC272_2 := am_ hl272_2
        clear hi272_2 hl272_2
        replace p272 := eq_true p272
        replace q272 := eq_true q272
        refine start_ (n := 9) (S := fun w' => w'.cell? ⟨gb269, 0, none⟩ = some (.int .i64 a1_0) ∧ w'.cell? ⟨gb269, 1, none⟩ = some (.int .i64 a1_1) ∧ w'.cell? ⟨gb269, 2, none⟩ = some (.int .u64 a1_2) ∧ w'.cell? ⟨gb269, 3, none⟩ = some (.int .i64 a1_3) ∧ w'.cell? (ad272.add ((a1_1).toNat * 5)) = some (.int .i64 ((rd_T54 l0 a1_1).f0)) ∧ w'.cell? ⟨(ad272.add ((a1_1).toNat * 5)).block, (ad272.add ((a1_1).toNat * 5)).off + 1, none⟩ = some (.int .u64 ((rd_T54 l0 a1_1).f1)) ∧ w'.cell? ⟨(ad272.add ((a1_1).toNat * 5)).block, (ad272.add ((a1_1).toNat * 5)).off + 2, none⟩ = some (.slice A272_2 ((rd_T54 l0 a1_1).f2).length c272_2) ∧ w'.cell? ⟨(ad272.add ((a1_1).toNat * 5)).block, (ad272.add ((a1_1).toNat * 5)).off + 3, none⟩ = some (.bool ((rd_T54 l0 a1_1).f3)) ∧ w'.cell? ⟨(ad272.add ((a1_1).toNat * 5)).block, (ad272.add ((a1_1).toNat * 5)).off + 4, none⟩ = some (.int .i64 ((rd_T54 l0 a1_1).f4))) (ds := []) #[false, false, false, false, false, false, false, false, false] (by kernel_rfl) rfl rfl ⟨(bc_ BK269.out 0).trans rfl, (bc_ BK269.out 1).trans rfl, (bc_ BK269.out 2).trans rfl, (bc_ BK269.out 3).trans rfl, ((HB.out.cell (cl_ w _ hw272_0)).trans hw272_0), ((HB.out.cell (cl_ w _ hw272_1)).trans hw272_1), ((HB.out.cell (cl_ w _ hw272_2)).trans hw272_2), ((HB.out.cell (cl_ w _ hw272_3)).trans hw272_3), ((HB.out.cell (cl_ w _ hw272_4)).trans hw272_4)⟩ (fun hHeld => ?_); refine with_tabW catenaryref09_Can.tab10 catenaryref09_Can.bits10 (fun HT_ HW_ => ?_)
        generalize w26.drew = w28 at BK269 HB HR272_2 hx272_0 hx272_1 hx272_2 hx272_3 hx272_4 hHeld ⊢
        refine pure_ (i := 0) (N := some 22) (v := ?_) (a' := ?_) #[true, false, false, false, false, false, false, false, false] rfl rfl (any_of HT_.out (by kernel_rfl)) (fun _ _ _ h => h) (Or.inl ⟨by rfl, ?_⟩) ?_ ?_
        rotate_left
        ·intro w'
         go_simp
         with_reducible rfl
        rotate_left
        ·simp only [Act.put, sa_, sz_, ss_, i64_w, i32_w]
         rfl
        refine pure_ (i := 1) (N := some 23) (v := ?_) (a' := ?_) #[true, true, false, false, false, false, false, false, false] rfl rfl (any_of HT_.out (by kernel_rfl)) (fun _ _ _ h => h) (Or.inl ⟨by rfl, ?_⟩) ?_ ?_
        rotate_left
        ·intro w'
         go_simp
         with_reducible rfl
        rotate_left
        ·simp only [Act.put, sa_, sz_, ss_, i64_w, i32_w]
         rfl
        refine pure_ (i := 6) (N := some 28) (v := ?_) (a' := ?_) #[true, true, false, false, false, false, true, false, false] rfl rfl (any_of HT_.out (by kernel_rfl)) (fun _ _ _ h => h) (Or.inl ⟨by rfl, ?_⟩) ?_ ?_
        rotate_left
        ·intro w'
         go_simp
         with_reducible rfl
        rotate_left
        ·simp only [Act.put, sa_, sz_, ss_, i64_w, i32_w]
         rfl
        refine take_ (i := 2) (N := some 24) (v := ?_) (a' := ?_) #[true, true, true, false, false, false, true, false, false] rfl rfl (take_ofW HT_.out HW_.out (by kernel_rfl)) (fun _ _ _ h => h) (Or.inl ⟨by rfl, ?_⟩) hHeld ?_ ?_
        rotate_left
        ·rintro w' ⟨s0, s1, s2, s3, s4, s5, s6, s7, s8⟩
         go_simp
         with_reducible rfl
        rotate_left
        ·simp only [Act.put, sa_, sz_, ss_, i64_w, i32_w]
         rfl
        refine pure_ (i := 3) (N := some 25) (v := ?_) (a' := ?_) #[true, true, true, true, false, false, true, false, false] rfl rfl (any_of HT_.out (by kernel_rfl)) (fun _ _ _ h => h) (Or.inl ⟨by rfl, ?_⟩) ?_ ?_
        rotate_left
        ·intro w'
         go_simp
         with_reducible rfl
        rotate_left
        ·simp only [Act.put, sa_, sz_, ss_, i64_w, i32_w]
         rfl
        refine pure_ (i := 4) (N := some 26) (v := ?_) (a' := ?_) #[true, true, true, true, true, false, true, false, false] rfl rfl (any_of HT_.out (by kernel_rfl)) (fun _ _ _ h => h) (Or.inl ⟨by rfl, ?_⟩) ?_ ?_
        rotate_left
        ·intro w'
         go_simp
         with_reducible rfl
        rotate_left
        ·simp only [Act.put, sa_, sz_, ss_, i64_w, i32_w]
         rfl
        refine take_ (i := 5) (N := some 27) (v := ?_) (a' := ?_) #[true, true, true, true, true, true, true, false, false] rfl rfl (take_ofW HT_.out HW_.out (by kernel_rfl)) (fun _ _ _ h => h) (Or.inl ⟨by rfl, ?_⟩) hHeld ?_ ?_
        rotate_left
        ·rintro w' ⟨s0, s1, s2, s3, s4, s5, s6, s7, s8⟩
         go_simp
         with_reducible rfl
        rotate_left
        ·simp only [Act.put, sa_, sz_, ss_, i64_w, i32_w]
         rfl
        refine take_ (i := 7) (N := some 29) (v := ?_) (a' := ?_) #[true, true, true, true, true, true, true, true, false] rfl rfl (take_ofW HT_.out HW_.out (by kernel_rfl)) (fun _ _ _ h => h) (Or.inl ⟨by rfl, ?_⟩) hHeld ?_ ?_
        rotate_left
        ·rintro w' ⟨s0, s1, s2, s3, s4, s5, s6, s7, s8⟩
         go_simp
         with_reducible rfl
        rotate_left
        ·simp only [Act.put, sa_, sz_, ss_, i64_w, i32_w]
         rfl
        refine pure_ (i := 8) (N := some 30) (v := ?_) (a' := ?_) #[true, true, true, true, true, true, true, true, true] rfl rfl (any_of HT_.out (by kernel_rfl)) (fun _ _ _ h => h) (Or.inl ⟨by rfl, ?_⟩) ?_ ?_
        rotate_left
        ·intro w'
         go_simp
         with_reducible rfl
        rotate_left
        ·simp only [Act.put, sa_, sz_, ss_, i64_w, i32_w]
         rfl
        refine done_ (done_of HT_.out (by kernel_rfl)) ?_
        try go_wp2
        have n0_ := am_ (bx_ BK269.out)
        have n1_ := am_ (bd_ HB.out)
        clear BK269
        clear HB
        have BK269 := n0_
        have HB := n1_
        clear n0_ n1_
        have p273 : 0 ≤ (a1_1 : Int) := od_ (by first | (with_reducible assumption) | assumption)
        have q273 : a1_1 < (l0.length : Int) := od_ (by first | (with_reducible assumption) | assumption)
        obtain ⟨ad273, A273_2, c273_2, e273, hx273_0, hx273_1, hx273_2, hx273_3, hx273_4, hl273_2, hi273_2⟩ := at_T54 HR0.out a1_1 p273 q273
        have hw273_4 := hx273_4
        have hw273_3 := hx273_3
        have hw273_2 := hx273_2
        have hw273_1 := hx273_1
        have hw273_0 := hx273_0
        obtain rfl : ad272 = ad273 := (by injection e273)
        replace hx273_0 := (HB.out.cell (cl_ w _ hx273_0)).trans hx273_0
        replace hx273_1 := (HB.out.cell (cl_ w _ hx273_1)).trans hx273_1
        replace hx273_2 := (HB.out.cell (cl_ w _ hx273_2)).trans hx273_2
        replace hx273_3 := (HB.out.cell (cl_ w _ hx273_3)).trans hx273_3
        replace hx273_4 := (HB.out.cell (cl_ w _ hx273_4)).trans hx273_4
        have HR273_2 := am_ hi273_2
        have HC273_2 := am_ hl273_2
        clear hi273_2 hl273_2
        replace p273 := eq_true p273
        replace q273 := eq_true q273
        refine start_ (n := 9) (S := fun w' => w'.cell? ⟨gb269, 0, none⟩ = some (.int .i64 a1_0) ∧ w'.cell? ⟨gb269, 1, none⟩ = some (.int .i64 a1_1) ∧ w'.cell? ⟨gb269, 2, none⟩ = some (.int .u64 a1_2) ∧ w'.cell? ⟨gb269, 3, none⟩ = some (.int .i64 a1_3) ∧ w'.cell? (ad272.add ((a1_1).toNat * 5)) = some (.int .i64 ((rd_T54 l0 a1_1).f0)) ∧ w'.cell? ⟨(ad272.add ((a1_1).toNat * 5)).block, (ad272.add ((a1_1).toNat * 5)).off + 1, none⟩ = some (.int .u64 ((rd_T54 l0 a1_1).f1)) ∧ w'.cell? ⟨(ad272.add ((a1_1).toNat * 5)).block, (ad272.add ((a1_1).toNat * 5)).off + 2, none⟩ = some (.slice A273_2 ((rd_T54 l0 a1_1).f2).length c273_2) ∧ w'.cell? ⟨(ad272.add ((a1_1).toNat * 5)).block, (ad272.add ((a1_1).toNat * 5)).off + 3, none⟩ = some (.bool ((rd_T54 l0 a1_1).f3)) ∧ w'.cell? ⟨(ad272.add ((a1_1).toNat * 5)).block, (ad272.add ((a1_1).toNat * 5)).off + 4, none⟩ = some (.int .i64 ((rd_T54 l0 a1_1).f4))) (ds := []) #[false, false, false, false, false, false, false, false, false] (by kernel_rfl) rfl rfl ⟨(bc_ BK269.out 0).trans rfl, (bc_ BK269.out 1).trans rfl, (bc_ BK269.out 2).trans rfl, (bc_ BK269.out 3).trans rfl, ((HB.out.cell (cl_ w _ hw273_0)).trans hw273_0), ((HB.out.cell (cl_ w _ hw273_1)).trans hw273_1), ((HB.out.cell (cl_ w _ hw273_2)).trans hw273_2), ((HB.out.cell (cl_ w _ hw273_3)).trans hw273_3), ((HB.out.cell (cl_ w _ hw273_4)).trans hw273_4)⟩ (fun hHeld => ?_); refine with_tabW catenaryref09_Can.tab12 catenaryref09_Can.bits12 (fun HT_ HW_ => ?_)
        generalize w28.drew = w29 at BK269 HB HR273_2 hx273_0 hx273_1 hx273_2 hx273_3 hx273_4 hHeld ⊢
        refine pure_ (i := 0) (N := some 31) (v := ?_) (a' := ?_) #[true, false, false, false, false, false, false, false, false] rfl rfl (any_of HT_.out (by kernel_rfl)) (fun _ _ _ h => h) (Or.inl ⟨by rfl, ?_⟩) ?_ ?_
        rotate_left
        ·intro w'
         go_simp
         with_reducible rfl
        rotate_left
        ·simp only [Act.put, sa_, sz_, ss_, i64_w, i32_w]
         rfl
        refine pure_ (i := 1) (N := some 32) (v := ?_) (a' := ?_) #[true, true, false, false, false, false, false, false, false] rfl rfl (any_of HT_.out (by kernel_rfl)) (fun _ _ _ h => h) (Or.inl ⟨by rfl, ?_⟩) ?_ ?_
        rotate_left
        ·intro w'
         go_simp
         with_reducible rfl
        rotate_left
        ·simp only [Act.put, sa_, sz_, ss_, i64_w, i32_w]
         rfl
        refine pure_ (i := 2) (N := some 33) (v := ?_) (a' := ?_) #[true, true, true, false, false, false, false, false, false] rfl rfl (any_of HT_.out (by kernel_rfl)) (fun _ _ _ h => h) (Or.inl ⟨by rfl, ?_⟩) ?_ ?_
        rotate_left
        ·intro w'
         go_simp
         with_reducible rfl
        rotate_left
        ·simp only [Act.put, sa_, sz_, ss_, i64_w, i32_w]
         rfl
        refine take_ (i := 3) (N := some 34) (v := ?_) (a' := ?_) #[true, true, true, true, false, false, false, false, false] rfl rfl (take_ofW HT_.out HW_.out (by kernel_rfl)) (fun _ _ _ h => h) (Or.inl ⟨by rfl, ?_⟩) hHeld ?_ ?_
        rotate_left
        ·rintro w' ⟨s0, s1, s2, s3, s4, s5, s6, s7, s8⟩
         go_simp
         with_reducible rfl
        rotate_left
        ·simp only [Act.put, sa_, sz_, ss_, i64_w, i32_w]
         rfl
        refine pure_ (i := 4) (N := some 35) (v := ?_) (a' := ?_) #[true, true, true, true, true, false, false, false, false] rfl rfl (any_of HT_.out (by kernel_rfl)) (fun _ _ _ h => h) (Or.inl ⟨by rfl, ?_⟩) ?_ ?_
        rotate_left
        ·intro w'
         go_simp
         with_reducible rfl
        rotate_left
        ·simp only [Act.put, sa_, sz_, ss_, i64_w, i32_w]
         rfl
        refine take_ (i := 5) (N := some 36) (v := ?_) (a' := ?_) #[true, true, true, true, true, true, false, false, false] rfl rfl (take_ofW HT_.out HW_.out (by kernel_rfl)) (fun _ _ _ h => h) (Or.inl ⟨by rfl, ?_⟩) hHeld ?_ ?_
        rotate_left
        ·rintro w' ⟨s0, s1, s2, s3, s4, s5, s6, s7, s8⟩
         go_simp
         with_reducible rfl
        rotate_left
        ·simp only [Act.put, sa_, sz_, ss_, i64_w, i32_w]
         rfl
        refine take_ (i := 6) (N := some 37) (v := ?_) (a' := ?_) #[true, true, true, true, true, true, true, false, false] rfl rfl (take_ofW HT_.out HW_.out (by kernel_rfl)) (fun _ _ _ h => h) (Or.inl ⟨by rfl, ?_⟩) hHeld ?_ ?_
        rotate_left
        ·rintro w' ⟨s0, s1, s2, s3, s4, s5, s6, s7, s8⟩
         go_simp
         with_reducible rfl
        rotate_left
        ·simp only [Act.put, sa_, sz_, ss_, i64_w, i32_w]
         rfl
        refine one_ (i := 7) (N := some 38) #[true, true, true, true, true, true, true, true, false] rfl rfl (one_of HT_.out (by kernel_rfl)) (by decide) (fun K hK => ?_)
        refine goes_ Tryd.func64 (by kernel_rfl) rfl #[.slice (some ad272) l0.length c0, .agg #[.int .i64 ((rd_T54 l0 a1_1).f0), .int .u64 ((rd_T54 l0 a1_1).f1), .slice A273_2 ((rd_T54 l0 a1_1).f2).length c273_2, .bool ((rd_T54 l0 a1_1).f3), .int .i64 ((rd_T54 l0 a1_1).f4)], .agg #[.int .i64 a1_0, .int .i64 a1_1, .int .u64 a1_2, .int .i64 a1_3]] (by rfl) rfl rfl (by (try simp only [List.map_toArray, List.map_cons, List.map_nil]); first | done | rfl | (simp only [List.length_drop, lt_]; rfl)) ?_
        with_reducible refine (catenaryref09_can.calls k _ _ l0 ((rd_T54 l0 a1_1).f0) ((rd_T54 l0 a1_1).f1) _ _ ((rd_T54 l0 a1_1).f2) ((rd_T54 l0 a1_1).f3) ((rd_T54 l0 a1_1).f4) a1_0 a1_1 a1_2 a1_3 t274 _ ?side1 ?side2 ?side3 ?side4 A22.out).mono ?_
        (case side1 => repeat (first | exact (Kd.C_below HR0.out HB.out) | (with_reducible refine Kd.C_alloc ?_ _) | (with_reducible refine Kd.C_drewN ?_ _) | (with_reducible refine Kd.C_drew ?_)))
        (case side2 => exact HC0.out)
        (case side3 => repeat (first | exact (Kd.C_below HR273_2.out HB.out) | (with_reducible refine Kd.C_alloc ?_ _) | (with_reducible refine Kd.C_drewN ?_ _) | (with_reducible refine Kd.C_drew ?_)))
        (case side4 => exact HC273_2.out)
        rintro e w30 ⟨rfl, hb⟩
        refine ⟨_, rfl, ?_⟩
        have n0_ := am_ (blk_below (g := gb269) (o := .cells #[.int .i64 a1_0, .int .i64 a1_1, .int .u64 a1_2, .int .i64 a1_3] 24 (0, 0)) (by (with_reducible repeat (first | refine bw_ ?_ _ | refine bx_ ?_ | refine bl_ ?_ _)); exact BK269.out) hb)
        have n1_ := am_ (bt_ (by repeat (first | (with_reducible first | exact HB.out | apply ba_ | apply bn_ | apply bd_ | refine be_ ?_ GE269.out) | exact HB.out)) hb)
        clear BK269
        clear HB
        have BK269 := n0_
        have HB := n1_
        clear n0_ n1_
        (try clear hb)
        (try clear hb2)
        (try clear hk)
        (try clear hi)
        refine hK.out _ _ ⟨(bc_ BK269.out 0).trans rfl, (bc_ BK269.out 1).trans rfl, (bc_ BK269.out 2).trans rfl, (bc_ BK269.out 3).trans rfl, ((HB.out.cell (cl_ w _ hw273_0)).trans hw273_0), ((HB.out.cell (cl_ w _ hw273_1)).trans hw273_1), ((HB.out.cell (cl_ w _ hw273_2)).trans hw273_2), ((HB.out.cell (cl_ w _ hw273_3)).trans hw273_3), ((HB.out.cell (cl_ w _ hw273_4)).trans hw273_4)⟩ (fun hHeld => ?_)
        clear hK K
        refine norm_ (a' := ?_) ?_ ?_
        rotate_left
        ·show Act.put _ (some 38) _ = _
         simp only [Act.put, sa_, sz_, ss_, i64_w, i32_w]
         rfl
        refine pure_ (i := 8) (N := some 4) (v := ?_) (a' := ?_) #[true, true, true, true, true, true, true, true, true] rfl rfl (any_of HT_.out (by kernel_rfl)) (fun _ _ _ h => h) (Or.inl ⟨by rfl, ?_⟩) ?_ ?_
        rotate_left
        ·intro w'
         go_simp
         with_reducible rfl
        rotate_left
        ·simp only [Act.put, sa_, sz_, ss_, i64_w, i32_w]
         rfl
        refine done_ (done_of HT_.out (by kernel_rfl)) ?_
        try go_wp2
        go_ret
        exact ⟨by first | rfl | (simp [errW_none, errW_some] <;> rfl) | (simp [*, errW_none, errW_some] <;> rfl), by repeat (first | (with_reducible first | exact HB.out | apply ba_ | apply bn_ | apply bd_ | refine be_ ?_ GE269.out) | exact HB.out)⟩
       ·rw [if_neg c21] at H
        have c21b0 : (((rd_T54 l0 a1_1).f1) == a1_2) = false := beq_eq_false_iff_ne.mpr c21
        have c21b1 : (((rd_T54 l0 a1_1).f1) != a1_2) = true := bne_iff_ne.mpr c21
        obtain rfl := Option.some.inj H
        go_enter Tryd.func27, Tryd.ntmps27
        try go_wp2_with (first | ((with_reducible refine gate_dst (N := 3) rfl ?_); refine box_event ?hg (N := 3) ?hd (cs := #[.int .i64 a1_0, .int .i64 a1_1, .int .u64 a1_2, .int .i64 a1_3]) (t := 24) ?hr ?_; (case hd => rfl); (case hg => rfl); (case hr => first | (go_simp; done) | (go_simp; rfl)); intro gb269 hg w31 hbox hb; have n0_ := am_ (bt_ (by repeat (first | (with_reducible first | exact HB.out | apply ba_ | apply bn_ | apply bd_) | exact HB.out)) hb); have n1_ := am_ (hbox); have n2_ := am_ ((by rw [hg]; exact (bs_ (by repeat (first | (with_reducible first | exact HB.out | apply ba_ | apply bn_ | apply bd_) | exact HB.out))) : w.heap.size ≤ gb269)); have n3_ := am_ ((by rw [hg]; exact (bs_ (by repeat (first | (with_reducible first | exact HB.out | apply ba_ | apply bn_ | apply bd_) | exact HB.out))) : w.heap.size ≤ gb269)); clear HB; have HB := n0_; have BK269 := n1_; have GW269 := n2_; have GE269 := n3_; clear n0_ n1_ n2_ n3_; clear hb hbox hg) | ((with_reducible refine gate_callee (f := 34) rfl ?_); refine goesL_ (some 7) rfl rfl Tryd.func34 (by kernel_rfl) rfl #[.slice A0 l0.length c0] rfl (by (try simp only [List.map_toArray, List.map_cons, List.map_nil]); first | done | rfl | (simp only [List.length_drop, lt_]; rfl)) ?_; (with_reducible refine (catenaryref09_All.calls k _ _ l0 true _ ?side1 ?side2 A3.out).mono ?_); (case side1 => repeat (first | exact (Kd.C_below HR0.out HB.out) | (with_reducible refine Kd.C_alloc ?_ _) | (with_reducible refine Kd.C_drewN ?_ _) | (with_reducible refine Kd.C_drew ?_))); (case side2 => exact HC0.out); rintro e w32 ⟨rfl, hb⟩; refine ⟨_, rfl, ?_⟩; have n0_ := am_ (blk_below (g := gb269) (o := .cells #[.int .i64 a1_0, .int .i64 a1_1, .int .u64 a1_2, .int .i64 a1_3] 24 (0, 0)) (by (with_reducible repeat (first | refine bw_ ?_ _ | refine bx_ ?_ | refine bl_ ?_ _)); exact BK269.out) hb); have n1_ := am_ (bt_ (by repeat (first | (with_reducible first | exact HB.out | apply ba_ | apply bn_ | apply bd_ | refine be_ ?_ GE269.out) | exact HB.out)) hb); clear BK269; clear HB; have BK269 := n0_; have HB := n1_; clear n0_ n1_; (try clear hb); (try clear hb2); (try clear hk); (try clear hi); have hcz33_0 : w32.cell? ⟨gb269, 0, none⟩ = some (.int .i64 a1_0) := (bc_ BK269.out 0).trans rfl; have hcz33_1 : w32.cell? ⟨gb269, 1, none⟩ = some (.int .i64 a1_1) := (bc_ BK269.out 1).trans rfl; have hcz33_2 : w32.cell? ⟨gb269, 2, none⟩ = some (.int .u64 a1_2) := (bc_ BK269.out 2).trans rfl; have hcz33_3 : w32.cell? ⟨gb269, 3, none⟩ = some (.int .i64 a1_3) := (bc_ BK269.out 3).trans rfl; have hfz33_0 := bf_ BK269.out 0; have hfz33_1 := bf_ BK269.out 1; have hfz33_2 := bf_ BK269.out 2; have hfz33_3 := bf_ BK269.out 3) | ((with_reducible refine gate_callee (f := 9) rfl ?_); refine goesL_ (some 10) rfl rfl Tryd.func9 (by kernel_rfl) rfl #[.agg #[.int .i64 a1_0, .int .i64 a1_1, .int .u64 a1_2, .int .i64 a1_3]] rfl (by (try simp only [List.map_toArray, List.map_cons, List.map_nil]); first | done | rfl | (simp only [List.length_drop, lt_]; rfl)) ?_; (with_reducible refine (catenaryref08_Check.calls a1_0 a1_1 a1_2 a1_3 t271 _ A5.out).mono ?_); rintro e w34 ⟨rfl, hb⟩; refine ⟨_, rfl, ?_⟩; have n0_ := am_ (blk_below (g := gb269) (o := .cells #[.int .i64 a1_0, .int .i64 a1_1, .int .u64 a1_2, .int .i64 a1_3] 24 (0, 0)) (by (with_reducible repeat (first | refine bw_ ?_ _ | refine bx_ ?_ | refine bl_ ?_ _)); exact BK269.out) hb); have n1_ := am_ (bt_ (by repeat (first | (with_reducible first | exact HB.out | apply ba_ | apply bn_ | apply bd_ | refine be_ ?_ GE269.out) | exact HB.out)) hb); clear BK269; clear HB; have BK269 := n0_; have HB := n1_; clear n0_ n1_; (try clear hb); (try clear hb2); (try clear hk); (try clear hi); have hcz35_0 : w34.cell? ⟨gb269, 0, none⟩ = some (.int .i64 a1_0) := (bc_ BK269.out 0).trans rfl; have hcz35_1 : w34.cell? ⟨gb269, 1, none⟩ = some (.int .i64 a1_1) := (bc_ BK269.out 1).trans rfl; have hcz35_2 : w34.cell? ⟨gb269, 2, none⟩ = some (.int .u64 a1_2) := (bc_ BK269.out 2).trans rfl; have hcz35_3 : w34.cell? ⟨gb269, 3, none⟩ = some (.int .i64 a1_3) := (bc_ BK269.out 3).trans rfl; have hfz35_0 := bf_ BK269.out 0; have hfz35_1 := bf_ BK269.out 1; have hfz35_2 := bf_ BK269.out 2; have hfz35_3 := bf_ BK269.out 3))
        have n0_ := am_ (bx_ BK269.out)
        have n1_ := am_ (bd_ HB.out)
        clear BK269
        clear HB
        have BK269 := n0_
        have HB := n1_
        clear n0_ n1_
        have p272 : 0 ≤ (a1_1 : Int) := od_ (by first | (with_reducible assumption) | assumption)
        have q272 : a1_1 < (l0.length : Int) := od_ (by first | (with_reducible assumption) | assumption)
        obtain ⟨ad272, A272_2, c272_2, e272, hx272_0, hx272_1, hx272_2, hx272_3, hx272_4, hl272_2, hi272_2⟩ := at_T54 HR0.out a1_1 p272 q272
        have hw272_4 := hx272_4
        have hw272_3 := hx272_3
        have hw272_2 := hx272_2
        have hw272_1 := hx272_1
        have hw272_0 := hx272_0
        cases e272
        replace hx272_0 := (HB.out.cell (cl_ w _ hx272_0)).trans hx272_0
        replace hx272_1 := (HB.out.cell (cl_ w _ hx272_1)).trans hx272_1
        replace hx272_2 := (HB.out.cell (cl_ w _ hx272_2)).trans hx272_2
        replace hx272_3 := (HB.out.cell (cl_ w _ hx272_3)).trans hx272_3
        replace hx272_4 := (HB.out.cell (cl_ w _ hx272_4)).trans hx272_4
        have HR272_2 := am_ hi272_2
        have HC272_2 := am_ hl272_2
        clear hi272_2 hl272_2
        replace p272 := eq_true p272
        replace q272 := eq_true q272
        refine start_ (n := 9) (S := fun w' => w'.cell? ⟨gb269, 0, none⟩ = some (.int .i64 a1_0) ∧ w'.cell? ⟨gb269, 1, none⟩ = some (.int .i64 a1_1) ∧ w'.cell? ⟨gb269, 2, none⟩ = some (.int .u64 a1_2) ∧ w'.cell? ⟨gb269, 3, none⟩ = some (.int .i64 a1_3) ∧ w'.cell? (ad272.add ((a1_1).toNat * 5)) = some (.int .i64 ((rd_T54 l0 a1_1).f0)) ∧ w'.cell? ⟨(ad272.add ((a1_1).toNat * 5)).block, (ad272.add ((a1_1).toNat * 5)).off + 1, none⟩ = some (.int .u64 ((rd_T54 l0 a1_1).f1)) ∧ w'.cell? ⟨(ad272.add ((a1_1).toNat * 5)).block, (ad272.add ((a1_1).toNat * 5)).off + 2, none⟩ = some (.slice A272_2 ((rd_T54 l0 a1_1).f2).length c272_2) ∧ w'.cell? ⟨(ad272.add ((a1_1).toNat * 5)).block, (ad272.add ((a1_1).toNat * 5)).off + 3, none⟩ = some (.bool ((rd_T54 l0 a1_1).f3)) ∧ w'.cell? ⟨(ad272.add ((a1_1).toNat * 5)).block, (ad272.add ((a1_1).toNat * 5)).off + 4, none⟩ = some (.int .i64 ((rd_T54 l0 a1_1).f4))) (ds := []) #[false, false, false, false, false, false, false, false, false] (by kernel_rfl) rfl rfl ⟨(bc_ BK269.out 0).trans rfl, (bc_ BK269.out 1).trans rfl, (bc_ BK269.out 2).trans rfl, (bc_ BK269.out 3).trans rfl, ((HB.out.cell (cl_ w _ hw272_0)).trans hw272_0), ((HB.out.cell (cl_ w _ hw272_1)).trans hw272_1), ((HB.out.cell (cl_ w _ hw272_2)).trans hw272_2), ((HB.out.cell (cl_ w _ hw272_3)).trans hw272_3), ((HB.out.cell (cl_ w _ hw272_4)).trans hw272_4)⟩ (fun hHeld => ?_); refine with_tabW catenaryref09_Can.tab10 catenaryref09_Can.bits10 (fun HT_ HW_ => ?_)
        generalize w34.drew = w36 at BK269 HB HR272_2 hx272_0 hx272_1 hx272_2 hx272_3 hx272_4 hHeld ⊢
        refine pure_ (i := 0) (N := some 22) (v := ?_) (a' := ?_) #[true, false, false, false, false, false, false, false, false] rfl rfl (any_of HT_.out (by kernel_rfl)) (fun _ _ _ h => h) (Or.inl ⟨by rfl, ?_⟩) ?_ ?_
        rotate_left
        ·intro w'
         go_simp
         with_reducible rfl
        rotate_left
        ·simp only [Act.put, sa_, sz_, ss_, i64_w, i32_w]
         rfl
        refine pure_ (i := 1) (N := some 23) (v := ?_) (a' := ?_) #[true, true, false, false, false, false, false, false, false] rfl rfl (any_of HT_.out (by kernel_rfl)) (fun _ _ _ h => h) (Or.inl ⟨by rfl, ?_⟩) ?_ ?_
        rotate_left
        ·intro w'
         go_simp
         with_reducible rfl
        rotate_left
        ·simp only [Act.put, sa_, sz_, ss_, i64_w, i32_w]
         rfl
        refine pure_ (i := 6) (N := some 28) (v := ?_) (a' := ?_) #[true, true, false, false, false, false, true, false, false] rfl rfl (any_of HT_.out (by kernel_rfl)) (fun _ _ _ h => h) (Or.inl ⟨by rfl, ?_⟩) ?_ ?_
        rotate_left
        ·intro w'
         go_simp
         with_reducible rfl
        rotate_left
        ·simp only [Act.put, sa_, sz_, ss_, i64_w, i32_w]
         rfl
        refine take_ (i := 2) (N := some 24) (v := ?_) (a' := ?_) #[true, true, true, false, false, false, true, false, false] rfl rfl (take_ofW HT_.out HW_.out (by kernel_rfl)) (fun _ _ _ h => h) (Or.inl ⟨by rfl, ?_⟩) hHeld ?_ ?_
        rotate_left
        ·rintro w' ⟨s0, s1, s2, s3, s4, s5, s6, s7, s8⟩
         go_simp
         with_reducible rfl
        rotate_left
        ·simp only [Act.put, sa_, sz_, ss_, i64_w, i32_w]
         rfl
        refine pure_ (i := 3) (N := some 25) (v := ?_) (a' := ?_) #[true, true, true, true, false, false, true, false, false] rfl rfl (any_of HT_.out (by kernel_rfl)) (fun _ _ _ h => h) (Or.inl ⟨by rfl, ?_⟩) ?_ ?_
        rotate_left
        ·intro w'
         go_simp
         with_reducible rfl
        rotate_left
        ·simp only [Act.put, sa_, sz_, ss_, i64_w, i32_w]
         rfl
        refine pure_ (i := 4) (N := some 26) (v := ?_) (a' := ?_) #[true, true, true, true, true, false, true, false, false] rfl rfl (any_of HT_.out (by kernel_rfl)) (fun _ _ _ h => h) (Or.inl ⟨by rfl, ?_⟩) ?_ ?_
        rotate_left
        ·intro w'
         go_simp
         with_reducible rfl
        rotate_left
        ·simp only [Act.put, sa_, sz_, ss_, i64_w, i32_w]
         rfl
        refine take_ (i := 5) (N := some 27) (v := ?_) (a' := ?_) #[true, true, true, true, true, true, true, false, false] rfl rfl (take_ofW HT_.out HW_.out (by kernel_rfl)) (fun _ _ _ h => h) (Or.inl ⟨by rfl, ?_⟩) hHeld ?_ ?_
        rotate_left
        ·rintro w' ⟨s0, s1, s2, s3, s4, s5, s6, s7, s8⟩
         go_simp
         with_reducible rfl
        rotate_left
        ·simp only [Act.put, sa_, sz_, ss_, i64_w, i32_w]
         rfl
        refine take_ (i := 7) (N := some 29) (v := ?_) (a' := ?_) #[true, true, true, true, true, true, true, true, false] rfl rfl (take_ofW HT_.out HW_.out (by kernel_rfl)) (fun _ _ _ h => h) (Or.inl ⟨by rfl, ?_⟩) hHeld ?_ ?_
        rotate_left
        ·rintro w' ⟨s0, s1, s2, s3, s4, s5, s6, s7, s8⟩
         go_simp
         with_reducible rfl
        rotate_left
        ·simp only [Act.put, sa_, sz_, ss_, i64_w, i32_w]
         rfl
        refine pure_ (i := 8) (N := some 30) (v := ?_) (a' := ?_) #[true, true, true, true, true, true, true, true, true] rfl rfl (any_of HT_.out (by kernel_rfl)) (fun _ _ _ h => h) (Or.inl ⟨by rfl, ?_⟩) ?_ ?_
        rotate_left
        ·intro w'
         go_simp
         with_reducible rfl
        rotate_left
        ·simp only [Act.put, sa_, sz_, ss_, i64_w, i32_w]
         rfl
        refine done_ (done_of HT_.out (by kernel_rfl)) ?_
        try go_wp2
        go_ret
        exact ⟨by first | rfl | (simp [errW_none, errW_some] <;> rfl) | (simp [*, errW_none, errW_some] <;> rfl), by repeat (first | (with_reducible first | exact HB.out | apply ba_ | apply bn_ | apply bd_ | refine be_ ?_ GE269.out) | exact HB.out)⟩
      ·rw [if_neg c20] at H
       exact absurd H (by simp)
     ·rw [if_neg c19] at H
      exact absurd H (by simp)
  ·rw [if_neg c6] at H
   have c6b0 : (t271 == 0) = false := beq_eq_false_iff_ne.mpr c6
   have c6b1 : (t271 != 0) = true := bne_iff_ne.mpr c6
   obtain rfl := Option.some.inj H
   go_enter Tryd.func27, Tryd.ntmps27
   go_wp2_with (first | ((with_reducible refine gate_dst (N := 3) rfl ?_); refine box_event ?hg (N := 3) ?hd (cs := #[.int .i64 a1_0, .int .i64 a1_1, .int .u64 a1_2, .int .i64 a1_3]) (t := 24) ?hr ?_; (case hd => rfl); (case hg => rfl); (case hr => first | (go_simp; done) | (go_simp; rfl)); intro gb269 hg w37 hbox hb; have n0_ := am_ (bt_ (by repeat (first | (with_reducible first | exact HB.out | apply ba_ | apply bn_ | apply bd_) | exact HB.out)) hb); have n1_ := am_ (hbox); have n2_ := am_ ((by rw [hg]; exact (bs_ (by repeat (first | (with_reducible first | exact HB.out | apply ba_ | apply bn_ | apply bd_) | exact HB.out))) : w.heap.size ≤ gb269)); have n3_ := am_ ((by rw [hg]; exact (bs_ (by repeat (first | (with_reducible first | exact HB.out | apply ba_ | apply bn_ | apply bd_) | exact HB.out))) : w.heap.size ≤ gb269)); clear HB; have HB := n0_; have BK269 := n1_; have GW269 := n2_; have GE269 := n3_; clear n0_ n1_ n2_ n3_; clear hb hbox hg) | ((with_reducible refine gate_callee (f := 34) rfl ?_); refine goesL_ (some 7) rfl rfl Tryd.func34 (by kernel_rfl) rfl #[.slice A0 l0.length c0] rfl (by (try simp only [List.map_toArray, List.map_cons, List.map_nil]); first | done | rfl | (simp only [List.length_drop, lt_]; rfl)) ?_; (with_reducible refine (catenaryref09_All.calls k _ _ l0 true _ ?side1 ?side2 A3.out).mono ?_); (case side1 => repeat (first | exact (Kd.C_below HR0.out HB.out) | (with_reducible refine Kd.C_alloc ?_ _) | (with_reducible refine Kd.C_drewN ?_ _) | (with_reducible refine Kd.C_drew ?_))); (case side2 => exact HC0.out); rintro e w38 ⟨rfl, hb⟩; refine ⟨_, rfl, ?_⟩; have n0_ := am_ (blk_below (g := gb269) (o := .cells #[.int .i64 a1_0, .int .i64 a1_1, .int .u64 a1_2, .int .i64 a1_3] 24 (0, 0)) (by (with_reducible repeat (first | refine bw_ ?_ _ | refine bx_ ?_ | refine bl_ ?_ _)); exact BK269.out) hb); have n1_ := am_ (bt_ (by repeat (first | (with_reducible first | exact HB.out | apply ba_ | apply bn_ | apply bd_ | refine be_ ?_ GE269.out) | exact HB.out)) hb); clear BK269; clear HB; have BK269 := n0_; have HB := n1_; clear n0_ n1_; (try clear hb); (try clear hb2); (try clear hk); (try clear hi); have hcz39_0 : w38.cell? ⟨gb269, 0, none⟩ = some (.int .i64 a1_0) := (bc_ BK269.out 0).trans rfl; have hcz39_1 : w38.cell? ⟨gb269, 1, none⟩ = some (.int .i64 a1_1) := (bc_ BK269.out 1).trans rfl; have hcz39_2 : w38.cell? ⟨gb269, 2, none⟩ = some (.int .u64 a1_2) := (bc_ BK269.out 2).trans rfl; have hcz39_3 : w38.cell? ⟨gb269, 3, none⟩ = some (.int .i64 a1_3) := (bc_ BK269.out 3).trans rfl; have hfz39_0 := bf_ BK269.out 0; have hfz39_1 := bf_ BK269.out 1; have hfz39_2 := bf_ BK269.out 2; have hfz39_3 := bf_ BK269.out 3) | ((with_reducible refine gate_callee (f := 9) rfl ?_); refine goesL_ (some 10) rfl rfl Tryd.func9 (by kernel_rfl) rfl #[.agg #[.int .i64 a1_0, .int .i64 a1_1, .int .u64 a1_2, .int .i64 a1_3]] rfl (by (try simp only [List.map_toArray, List.map_cons, List.map_nil]); first | done | rfl | (simp only [List.length_drop, lt_]; rfl)) ?_; (with_reducible refine (catenaryref08_Check.calls a1_0 a1_1 a1_2 a1_3 t271 _ A5.out).mono ?_); rintro e w40 ⟨rfl, hb⟩; refine ⟨_, rfl, ?_⟩; have n0_ := am_ (blk_below (g := gb269) (o := .cells #[.int .i64 a1_0, .int .i64 a1_1, .int .u64 a1_2, .int .i64 a1_3] 24 (0, 0)) (by (with_reducible repeat (first | refine bw_ ?_ _ | refine bx_ ?_ | refine bl_ ?_ _)); exact BK269.out) hb); have n1_ := am_ (bt_ (by repeat (first | (with_reducible first | exact HB.out | apply ba_ | apply bn_ | apply bd_ | refine be_ ?_ GE269.out) | exact HB.out)) hb); clear BK269; clear HB; have BK269 := n0_; have HB := n1_; clear n0_ n1_; (try clear hb); (try clear hb2); (try clear hk); (try clear hi)))
   go_ret
   exact ⟨by first | rfl | (simp [errW_none, errW_some] <;> rfl) | (simp [*, errW_none, errW_some] <;> rfl), by repeat (first | (with_reducible first | exact HB.out | apply ba_ | apply bn_ | apply bd_ | refine be_ ?_ GE269.out) | exact HB.out)⟩
 ·replace c4 := Bool.eq_false_iff.mpr c4
  subst c4
  have H1 : (some 1) = some r := by rw [if_neg (show ¬ (false = true) by decide)] at H; exact H
  clear H
  have H := H1
  clear H1
  obtain rfl := Option.some.inj H
  go_enter Tryd.func27, Tryd.ntmps27
  go_wp2_with (first | ((with_reducible refine gate_dst (N := 3) rfl ?_); refine box_event ?hg (N := 3) ?hd (cs := #[.int .i64 a1_0, .int .i64 a1_1, .int .u64 a1_2, .int .i64 a1_3]) (t := 24) ?hr ?_; (case hd => rfl); (case hg => rfl); (case hr => first | (go_simp; done) | (go_simp; rfl)); intro gb269 hg w41 hbox hb; have n0_ := am_ (bt_ (by repeat (first | (with_reducible first | exact HB.out | apply ba_ | apply bn_ | apply bd_) | exact HB.out)) hb); have n1_ := am_ (hbox); have n2_ := am_ ((by rw [hg]; exact (bs_ (by repeat (first | (with_reducible first | exact HB.out | apply ba_ | apply bn_ | apply bd_) | exact HB.out))) : w.heap.size ≤ gb269)); have n3_ := am_ ((by rw [hg]; exact (bs_ (by repeat (first | (with_reducible first | exact HB.out | apply ba_ | apply bn_ | apply bd_) | exact HB.out))) : w.heap.size ≤ gb269)); clear HB; have HB := n0_; have BK269 := n1_; have GW269 := n2_; have GE269 := n3_; clear n0_ n1_ n2_ n3_; clear hb hbox hg) | ((with_reducible refine gate_callee (f := 34) rfl ?_); refine goesL_ (some 7) rfl rfl Tryd.func34 (by kernel_rfl) rfl #[.slice A0 l0.length c0] rfl (by (try simp only [List.map_toArray, List.map_cons, List.map_nil]); first | done | rfl | (simp only [List.length_drop, lt_]; rfl)) ?_; (with_reducible refine (catenaryref09_All.calls k _ _ l0 false _ ?side1 ?side2 A3.out).mono ?_); (case side1 => repeat (first | exact (Kd.C_below HR0.out HB.out) | (with_reducible refine Kd.C_alloc ?_ _) | (with_reducible refine Kd.C_drewN ?_ _) | (with_reducible refine Kd.C_drew ?_))); (case side2 => exact HC0.out); rintro e w42 ⟨rfl, hb⟩; refine ⟨_, rfl, ?_⟩; have n0_ := am_ (blk_below (g := gb269) (o := .cells #[.int .i64 a1_0, .int .i64 a1_1, .int .u64 a1_2, .int .i64 a1_3] 24 (0, 0)) (by (with_reducible repeat (first | refine bw_ ?_ _ | refine bx_ ?_ | refine bl_ ?_ _)); exact BK269.out) hb); have n1_ := am_ (bt_ (by repeat (first | (with_reducible first | exact HB.out | apply ba_ | apply bn_ | apply bd_ | refine be_ ?_ GE269.out) | exact HB.out)) hb); clear BK269; clear HB; have BK269 := n0_; have HB := n1_; clear n0_ n1_; (try clear hb); (try clear hb2); (try clear hk); (try clear hi)))
  go_ret
  exact ⟨by first | rfl | (simp [errW_none, errW_some] <;> rfl) | (simp [*, errW_none, errW_some] <;> rfl), by repeat (first | (with_reducible first | exact HB.out | apply ba_ | apply bn_ | apply bd_ | refine be_ ?_ GE269.out) | exact HB.out)⟩
def catenaryref04_Same.l0 : Nat → List Int → List Int → Int → Option (Bool)
 | 0, _, _, _ => none
 | k + 1, x0, x1, x5 => if x5 < (x0.length : Int) then (if 0 ≤ x5 then (if x5 < (x1.length : Int) then (if (rd x0 x5) = (rd x1 x5) then (catenaryref04_Same.l0 k x0 x1 (wrap64 (x5 + 1))) else (some false)) else (none)) else (none)) else (some true)
def catenaryref04_Same.f (k : Nat) (l0 : List Int) (l1 : List Int) : Option (Bool) := if (l0.length : Int) = (l1.length : Int) then (catenaryref04_Same.l0 k l0 l1 0) else (some false)
set_option maxHeartbeats 8000000 in
set_option maxRecDepth 100000 in
theorem catenaryref04_Same.calls (k : Nat) (A0 : Option Addr) (c0 : Nat) (l0 : List Int) (A1 : Option Addr) (c1 : Nat) (l1 : List Int) (r : Bool) (w : World) (hr0 : Kd.C (Kd.int .i64) w A0 l0.length l0) (hc0 : l0.length ≤ c0) (hr1 : Kd.C (Kd.int .i64) w A1 l1.length l1) (hc1 : l1.length ≤ c1) (h : catenaryref04_Same.f k l0 l1 = some r) :
  Calls Tryd.prog 35 #[.slice A0 l0.length c0, .slice A1 l1.length c1] w fun e w' => e = .returned (.bool r) ∧ Drawn0 w w' := by
 have HR0 := am_ hr0
 have HC0 := am_ hc0
 clear hr0 hc0
 have HR1 := am_ hr1
 have HC1 := am_ hc1
 clear hr1 hc1
 have H : (if (l0.length : Int) = (l1.length : Int) then (catenaryref04_Same.l0 k l0 l1 0) else (some false)) = some r := h
 clear h
 by_cases c3 : (l0.length : Int) = (l1.length : Int)
 ·rw [if_pos c3] at H
  have c3b0 : ((l0.length : Int) == (l1.length : Int)) = true := beq_iff_eq.mpr c3
  have c3b1 : ((l0.length : Int) != (l1.length : Int)) = false := bne_eq_false_iff_eq.mpr c3
  have c3b2 : (l0.length == l1.length) = true := by first | simpa using c3 | (simp at c3 ⊢; omega)
  clear c3
  have H' := am_ H
  clear H
  go_enter Tryd.func35, Tryd.ntmps35
  go_wp2
  repeat (go_quiet (fail); try go_wp2)
  go_loopg [5] k (fun kq v5 w' => ∃ (x5_1 : Int), v5 = .int .i64 x5_1 ∧ Aside0 (catenaryref04_Same.l0 kq l0 l1 x5_1 = some r) ∧ Aside0 (kq ≤ k) ∧ Drawn0 w w')
  case atStart => exact ⟨(0), (by first | rfl | (simp; done) | (simp [*]; done)), H', ⟨Nat.le_refl _⟩, by repeat (first | exact Drawn0.refl _ | apply Drawn0.step)⟩
  case round =>
   clear H'
   try clear c1
   try clear p2
   try clear c3
   try clear c3b0
   try clear c3b1
   try clear c3b2
   obtain ⟨x5_1, rfl, HA, HK1, ⟨m1, rfl⟩⟩ := hrel
   cases gk with
   | zero => exact absurd HA.out (by simp [catenaryref04_Same.l0])
   | succ k1 =>
    have H := HA.out
    clear HA
    simp only [catenaryref04_Same.l0] at H
    by_cases c4 : x5_1 < (l0.length : Int)
    ·rw [if_pos c4] at H
     have c4b0 : decide (x5_1 < (l0.length : Int)) = true := decide_eq_true c4
     clear c4
     by_cases c5 : 0 ≤ x5_1
     ·rw [if_pos c5] at H
      have c5b0 : decide (0 ≤ x5_1) = true := decide_eq_true c5
      clear c5
      by_cases c6 : x5_1 < (l1.length : Int)
      ·rw [if_pos c6] at H
       have c6b0 : decide (x5_1 < (l1.length : Int)) = true := decide_eq_true c6
       clear c6
       by_cases c7 : (rd l0 x5_1) = (rd l1 x5_1)
       ·rw [if_pos c7] at H
        have c7b0 : ((rd l0 x5_1) == (rd l1 x5_1)) = true := beq_iff_eq.mpr c7
        have c7b1 : ((rd l0 x5_1) != (rd l1 x5_1)) = false := bne_eq_false_iff_eq.mpr c7
        clear c7
        have H' := am_ H
        clear H
        have p289 : 0 ≤ (x5_1 : Int) := od_ (by first | (with_reducible assumption) | assumption)
        have q289 : x5_1 < (l0.length : Int) := od_ (by first | (with_reducible assumption) | assumption)
        obtain ⟨ad289, e289, hx289_0⟩ := Kd.at_int HR0.out x5_1 p289 q289
        cases e289
        replace p289 := eq_true p289
        replace q289 := eq_true q289
        have p290 : 0 ≤ (x5_1 : Int) := od_ (by first | (with_reducible assumption) | assumption)
        have q290 : x5_1 < (l1.length : Int) := od_ (by first | (with_reducible assumption) | assumption)
        obtain ⟨ad290, e290, hx290_0⟩ := Kd.at_int HR1.out x5_1 p290 q290
        cases e290
        replace p290 := eq_true p290
        replace q290 := eq_true q290
        go_wp2
        repeat (go_quiet (fail); try go_wp2)
        go_roundg k1
        case measure => have := HK1.out; omega
        case rel => exact ⟨(wrap64 (x5_1 + 1)), (by first | rfl | (simp; done) | (simp [*]; done)), H', ⟨by have := HK1.out; omega⟩, by repeat (first | exact Drawn0.refl _ | apply Drawn0.step)⟩
       ·rw [if_neg c7] at H
        have c7b0 : ((rd l0 x5_1) == (rd l1 x5_1)) = false := beq_eq_false_iff_ne.mpr c7
        have c7b1 : ((rd l0 x5_1) != (rd l1 x5_1)) = true := bne_iff_ne.mpr c7
        obtain rfl := Option.some.inj H
        have p289 : 0 ≤ (x5_1 : Int) := od_ (by first | (with_reducible assumption) | assumption)
        have q289 : x5_1 < (l0.length : Int) := od_ (by first | (with_reducible assumption) | assumption)
        obtain ⟨ad289, e289, hx289_0⟩ := Kd.at_int HR0.out x5_1 p289 q289
        cases e289
        replace p289 := eq_true p289
        replace q289 := eq_true q289
        have p290 : 0 ≤ (x5_1 : Int) := od_ (by first | (with_reducible assumption) | assumption)
        have q290 : x5_1 < (l1.length : Int) := od_ (by first | (with_reducible assumption) | assumption)
        obtain ⟨ad290, e290, hx290_0⟩ := Kd.at_int HR1.out x5_1 p290 q290
        cases e290
        replace p290 := eq_true p290
        replace q290 := eq_true q290
        go_wp2
        repeat (go_quiet (fail); try go_wp2)
        go_ret
        exact ⟨by first | rfl | (simp; done) | (simp [*]; done), by repeat (first | exact Drawn0.refl _ | apply Drawn0.step)⟩
      ·rw [if_neg c6] at H
       exact absurd H (by simp)
     ·rw [if_neg c5] at H
      exact absurd H (by simp)
    ·rw [if_neg c4] at H
     have c4b0 : decide (x5_1 < (l0.length : Int)) = false := decide_eq_false c4
     clear c4
     obtain rfl := Option.some.inj H
     go_wp2
     repeat (go_quiet (fail); try go_wp2)
     go_ret
     exact ⟨by first | rfl | (simp; done) | (simp [*]; done), by repeat (first | exact Drawn0.refl _ | apply Drawn0.step)⟩
 ·rw [if_neg c3] at H
  have c3b0 : ((l0.length : Int) == (l1.length : Int)) = false := beq_eq_false_iff_ne.mpr c3
  have c3b1 : ((l0.length : Int) != (l1.length : Int)) = true := bne_iff_ne.mpr c3
  have c3b2 : (l0.length == l1.length) = false := by first | simpa using c3 | (simp at c3 ⊢; omega)
  obtain rfl := Option.some.inj H
  go_enter Tryd.func35, Tryd.ntmps35
  go_wp2
  repeat (go_quiet (fail); try go_wp2)
  go_ret
  exact ⟨by first | rfl | (simp; done) | (simp [*]; done), by repeat (first | exact Drawn0.refl _ | apply Drawn0.step)⟩
end Go.Proofs.YtlpkandfmbnlnaaDoor.Q
end
section
namespace Go.Proofs.YtlpkandfmbnlnaaDoor.Q
end Go.Proofs.YtlpkandfmbnlnaaDoor.Q
namespace Go.Proofs.YtlpkandfmbnlnaaDoor.R
end Go.Proofs.YtlpkandfmbnlnaaDoor.R
namespace Go.Proofs.YtlpkandfmbnlnaaDoor.Q
open Go.RowKit Go.Proofs.YtlpkandfmbnlnaaDoorW.PrintWords Go.Proofs.YtlpkandfmbnlnaaDoorW.PrintLast Go.Proofs.YtlpkandfmbnlnaaDoorW.PrintMore
attribute [local go_sem] max2_int min2_int max_two min_two max_three min_three max_four min_four   -- for this text's walks alone
set_option linter.unusedVariables false
set_option linter.unusedSimpArgs false
open Go.Proofs.YtlpkandfmbnlnaaDoor.Q Go.Proofs.YtlpkandfmbnlnaaDoor.R
def catenaryref09_Same.f (k : Nat) (a0_0 : Int) (a0_1 : Int) (l0_2 : List Int) (a0_3 : Bool) (a0_4 : Int) (a1_0 : Int) (a1_1 : Int) (l1_2 : List Int) (a1_3 : Bool) (a1_4 : Int) : Option (Bool) := if a0_0 = a1_0 then (if a0_1 = a1_1 then (if (a0_3 == a1_3) = true then (if a0_4 = a1_4 then ((catenaryref04_Same.f k l0_2 l1_2).bind fun t293 => (some t293)) else (some false)) else (some false)) else (some false)) else (some false)
set_option maxHeartbeats 8000000 in
set_option maxRecDepth 100000 in
theorem catenaryref09_Same.calls (k : Nat) (a0_0 : Int) (a0_1 : Int) (A0_2 : Option Addr) (c0_2 : Nat) (l0_2 : List Int) (a0_3 : Bool) (a0_4 : Int) (a1_0 : Int) (a1_1 : Int) (A1_2 : Option Addr) (c1_2 : Nat) (l1_2 : List Int) (a1_3 : Bool) (a1_4 : Int) (r : Bool) (w : World) (hr0_2 : Kd.C (Kd.int .i64) w A0_2 l0_2.length l0_2) (hc0_2 : l0_2.length ≤ c0_2) (hr1_2 : Kd.C (Kd.int .i64) w A1_2 l1_2.length l1_2) (hc1_2 : l1_2.length ≤ c1_2) (h : catenaryref09_Same.f k a0_0 a0_1 l0_2 a0_3 a0_4 a1_0 a1_1 l1_2 a1_3 a1_4 = some r) :
  Calls Tryd.prog 43 #[.agg #[.int .i64 a0_0, .int .u64 a0_1, .slice A0_2 l0_2.length c0_2, .bool a0_3, .int .i64 a0_4], .agg #[.int .i64 a1_0, .int .u64 a1_1, .slice A1_2 l1_2.length c1_2, .bool a1_3, .int .i64 a1_4]] w fun e w' => e = .returned (.bool r) ∧ Below w.heap.size w w' := by
 have hu54 := Tryd.underlying54
 have HR0_2 := am_ hr0_2
 have HC0_2 := am_ hc0_2
 clear hr0_2 hc0_2
 have HR1_2 := am_ hr1_2
 have HC1_2 := am_ hc1_2
 clear hr1_2 hc1_2
 have HB := am_ (Below.refl w.heap.size w)
 have H : (if a0_0 = a1_0 then (if a0_1 = a1_1 then (if (a0_3 == a1_3) = true then (if a0_4 = a1_4 then ((catenaryref04_Same.f k l0_2 l1_2).bind fun t293 => (some t293)) else (some false)) else (some false)) else (some false)) else (some false)) = some r := h
 clear h
 by_cases c3 : a0_0 = a1_0
 ·rw [if_pos c3] at H
  have c3b0 : (a0_0 == a1_0) = true := beq_iff_eq.mpr c3
  have c3b1 : (a0_0 != a1_0) = false := bne_eq_false_iff_eq.mpr c3
  clear c3
  by_cases c4 : a0_1 = a1_1
  ·rw [if_pos c4] at H
   have c4b0 : (a0_1 == a1_1) = true := beq_iff_eq.mpr c4
   have c4b1 : (a0_1 != a1_1) = false := bne_eq_false_iff_eq.mpr c4
   clear c4
   by_cases c5 : (a0_3 == a1_3) = true
   ·rw [if_pos c5] at H
    have c5b0 : (a0_3 == a1_3) = true := c5
    (try (have c5b1 : decide (a0_3 = a1_3) = true := by simpa using c5))
    (try (have c5b2 : (a0_3 == a1_3) = true := by simpa using c5))
    clear c5
    by_cases c6 : a0_4 = a1_4
    ·rw [if_pos c6] at H
     have c6b0 : (a0_4 == a1_4) = true := beq_iff_eq.mpr c6
     have c6b1 : (a0_4 != a1_4) = false := bne_eq_false_iff_eq.mpr c6
     clear c6
     replace H := Option.bind_eq_some_iff.mp H
     obtain ⟨t293, A70, H⟩ := H
     replace H : (some t293) = some r := H
     have A7 := am_ A70
     clear A70
     obtain rfl := Option.some.inj H
     go_enter Tryd.func43, Tryd.ntmps43
     go_wp2_with (first | ((with_reducible refine gate_dst (N := 2) rfl ?_); refine box_event ?hg (N := 2) ?hd (cs := #[.int .i64 a0_0, .int .u64 a0_1, .slice A0_2 l0_2.length c0_2, .bool a0_3, .int .i64 a0_4]) (t := 54) ?hr ?_; (case hd => rfl); (case hg => rfl); (case hr => first | (go_simp; done) | (go_simp; rfl)); intro gb291 hg w8 hbox hb; have n0_ := am_ (bt_ (by repeat (first | (with_reducible first | exact HB.out | apply ba_ | apply bn_ | apply bd_) | exact HB.out)) hb); have n1_ := am_ (hbox); have n2_ := am_ ((by rw [hg]; exact (bs_ (by repeat (first | (with_reducible first | exact HB.out | apply ba_ | apply bn_ | apply bd_) | exact HB.out))) : w.heap.size ≤ gb291)); have n3_ := am_ ((by rw [hg]; exact (bs_ (by repeat (first | (with_reducible first | exact HB.out | apply ba_ | apply bn_ | apply bd_) | exact HB.out))) : w.heap.size ≤ gb291)); clear HB; have HB := n0_; have BK291 := n1_; have GW291 := n2_; have GE291 := n3_; clear n0_ n1_ n2_ n3_; clear hb hbox hg) | ((with_reducible refine gate_dst (N := 3) rfl ?_); refine box_event ?hg (N := 3) ?hd (cs := #[.int .i64 a1_0, .int .u64 a1_1, .slice A1_2 l1_2.length c1_2, .bool a1_3, .int .i64 a1_4]) (t := 54) ?hr ?_; (case hd => rfl); (case hg => rfl); (case hr => first | (go_simp; done) | (go_simp; rfl)); intro gb292 hg w9 hbox hb; have n0_ := am_ (blk_below (g := gb291) (o := .cells #[.int .i64 a0_0, .int .u64 a0_1, .slice A0_2 l0_2.length c0_2, .bool a0_3, .int .i64 a0_4] 54 (0, 0)) (by (with_reducible repeat (first | refine bw_ ?_ _ | refine bx_ ?_ | refine bl_ ?_ _)); exact BK291.out) hb); have n1_ := am_ (bt_ (by repeat (first | (with_reducible first | exact HB.out | apply ba_ | apply bn_ | apply bd_ | refine be_ ?_ GE291.out) | exact HB.out)) hb); have n2_ := am_ (hbox); have n3_ := am_ ((by rw [hg]; exact (bs_ (by repeat (first | (with_reducible first | exact HB.out | apply ba_ | apply bn_ | apply bd_ | refine be_ ?_ GE291.out) | exact HB.out))) : w.heap.size ≤ gb292)); have n4_ := am_ ((by rw [hg]; exact (bs_ (by repeat (first | (with_reducible first | exact HB.out | apply ba_ | apply bn_ | apply bd_ | refine be_ ?_ GE291.out) | exact HB.out))) : w.heap.size ≤ gb292)); have n5_ := am_ ((by rw [hg]; exact Nat.ne_of_lt (blk_lt (g := gb291) (o := .cells #[.int .i64 a0_0, .int .u64 a0_1, .slice A0_2 l0_2.length c0_2, .bool a0_3, .int .i64 a0_4] 54 (0, 0)) (by (with_reducible repeat (first | refine bw_ ?_ _ | refine bx_ ?_ | refine bl_ ?_ _)); exact BK291.out)) : gb291 ≠ gb292)); have n6_ := am_ ((by rw [hg]; exact Nat.ne_of_gt (blk_lt (g := gb291) (o := .cells #[.int .i64 a0_0, .int .u64 a0_1, .slice A0_2 l0_2.length c0_2, .bool a0_3, .int .i64 a0_4] 54 (0, 0)) (by (with_reducible repeat (first | refine bw_ ?_ _ | refine bx_ ?_ | refine bl_ ?_ _)); exact BK291.out)) : gb292 ≠ gb291)); clear BK291; clear HB; have BK291 := n0_; have HB := n1_; have BK292 := n2_; have GW292 := n3_; have GE292 := n4_; have NB291_292 := n5_; have NB292_291 := n6_; clear n0_ n1_ n2_ n3_ n4_ n5_ n6_; clear hb hbox hg; have hnb10 := NB291_292.out; have hnc10 := NB292_291.out; have hcz11_0 : w9.cell? ⟨gb291, 0, none⟩ = some (.int .i64 a0_0) := (bc_ BK291.out 0).trans rfl; have hcz11_1 : w9.cell? ⟨gb291, 1, none⟩ = some (.int .u64 a0_1) := (bc_ BK291.out 1).trans rfl; have hcz11_2 : w9.cell? ⟨gb291, 2, none⟩ = some (.slice A0_2 l0_2.length c0_2) := (bc_ BK291.out 2).trans rfl; have hcz11_3 : w9.cell? ⟨gb291, 3, none⟩ = some (.bool a0_3) := (bc_ BK291.out 3).trans rfl; have hcz11_4 : w9.cell? ⟨gb291, 4, none⟩ = some (.int .i64 a0_4) := (bc_ BK291.out 4).trans rfl; have hfz11_0 := bf_ BK291.out 0; have hfz11_1 := bf_ BK291.out 1; have hfz11_2 := bf_ BK291.out 2; have hfz11_3 := bf_ BK291.out 3; have hfz11_4 := bf_ BK291.out 4; have hcz12_0 : w9.cell? ⟨gb292, 0, none⟩ = some (.int .i64 a1_0) := (bc_ BK292.out 0).trans rfl; have hcz12_1 : w9.cell? ⟨gb292, 1, none⟩ = some (.int .u64 a1_1) := (bc_ BK292.out 1).trans rfl; have hcz12_2 : w9.cell? ⟨gb292, 2, none⟩ = some (.slice A1_2 l1_2.length c1_2) := (bc_ BK292.out 2).trans rfl; have hcz12_3 : w9.cell? ⟨gb292, 3, none⟩ = some (.bool a1_3) := (bc_ BK292.out 3).trans rfl; have hcz12_4 : w9.cell? ⟨gb292, 4, none⟩ = some (.int .i64 a1_4) := (bc_ BK292.out 4).trans rfl; have hfz12_0 := bf_ BK292.out 0; have hfz12_1 := bf_ BK292.out 1; have hfz12_2 := bf_ BK292.out 2; have hfz12_3 := bf_ BK292.out 3; have hfz12_4 := bf_ BK292.out 4) | (go_at_call 35; (with_reducible refine (catenaryref04_Same.calls k _ _ l0_2 _ _ l1_2 t293 _ ?side1 ?side2 ?side3 ?side4 A7.out).mono ?_); (case side1 => repeat (first | exact (Kd.C_below HR0_2.out HB.out) | (with_reducible refine Kd.C_alloc ?_ _) | (with_reducible refine Kd.C_drewN ?_ _) | (with_reducible refine Kd.C_drew ?_))); (case side2 => exact HC0_2.out); (case side3 => repeat (first | exact (Kd.C_below HR1_2.out HB.out) | (with_reducible refine Kd.C_alloc ?_ _) | (with_reducible refine Kd.C_drewN ?_ _) | (with_reducible refine Kd.C_drew ?_))); (case side4 => exact HC1_2.out); rintro e w' ⟨rfl, ⟨nd, rfl⟩⟩))
     go_ret
     exact ⟨by first | rfl | (simp [errW_none, errW_some] <;> rfl) | (simp [*, errW_none, errW_some] <;> rfl), by repeat (first | (with_reducible first | exact HB.out | apply ba_ | apply bn_ | apply bd_ | refine be_ ?_ GE291.out | refine be_ ?_ GE292.out) | exact HB.out)⟩
    ·rw [if_neg c6] at H
     have c6b0 : (a0_4 == a1_4) = false := beq_eq_false_iff_ne.mpr c6
     have c6b1 : (a0_4 != a1_4) = true := bne_iff_ne.mpr c6
     obtain rfl := Option.some.inj H
     go_enter Tryd.func43, Tryd.ntmps43
     go_wp2_with (first | ((with_reducible refine gate_dst (N := 2) rfl ?_); refine box_event ?hg (N := 2) ?hd (cs := #[.int .i64 a0_0, .int .u64 a0_1, .slice A0_2 l0_2.length c0_2, .bool a0_3, .int .i64 a0_4]) (t := 54) ?hr ?_; (case hd => rfl); (case hg => rfl); (case hr => first | (go_simp; done) | (go_simp; rfl)); intro gb291 hg w13 hbox hb; have n0_ := am_ (bt_ (by repeat (first | (with_reducible first | exact HB.out | apply ba_ | apply bn_ | apply bd_) | exact HB.out)) hb); have n1_ := am_ (hbox); have n2_ := am_ ((by rw [hg]; exact (bs_ (by repeat (first | (with_reducible first | exact HB.out | apply ba_ | apply bn_ | apply bd_) | exact HB.out))) : w.heap.size ≤ gb291)); have n3_ := am_ ((by rw [hg]; exact (bs_ (by repeat (first | (with_reducible first | exact HB.out | apply ba_ | apply bn_ | apply bd_) | exact HB.out))) : w.heap.size ≤ gb291)); clear HB; have HB := n0_; have BK291 := n1_; have GW291 := n2_; have GE291 := n3_; clear n0_ n1_ n2_ n3_; clear hb hbox hg) | ((with_reducible refine gate_dst (N := 3) rfl ?_); refine box_event ?hg (N := 3) ?hd (cs := #[.int .i64 a1_0, .int .u64 a1_1, .slice A1_2 l1_2.length c1_2, .bool a1_3, .int .i64 a1_4]) (t := 54) ?hr ?_; (case hd => rfl); (case hg => rfl); (case hr => first | (go_simp; done) | (go_simp; rfl)); intro gb292 hg w14 hbox hb; have n0_ := am_ (blk_below (g := gb291) (o := .cells #[.int .i64 a0_0, .int .u64 a0_1, .slice A0_2 l0_2.length c0_2, .bool a0_3, .int .i64 a0_4] 54 (0, 0)) (by (with_reducible repeat (first | refine bw_ ?_ _ | refine bx_ ?_ | refine bl_ ?_ _)); exact BK291.out) hb); have n1_ := am_ (bt_ (by repeat (first | (with_reducible first | exact HB.out | apply ba_ | apply bn_ | apply bd_ | refine be_ ?_ GE291.out) | exact HB.out)) hb); have n2_ := am_ (hbox); have n3_ := am_ ((by rw [hg]; exact (bs_ (by repeat (first | (with_reducible first | exact HB.out | apply ba_ | apply bn_ | apply bd_ | refine be_ ?_ GE291.out) | exact HB.out))) : w.heap.size ≤ gb292)); have n4_ := am_ ((by rw [hg]; exact (bs_ (by repeat (first | (with_reducible first | exact HB.out | apply ba_ | apply bn_ | apply bd_ | refine be_ ?_ GE291.out) | exact HB.out))) : w.heap.size ≤ gb292)); have n5_ := am_ ((by rw [hg]; exact Nat.ne_of_lt (blk_lt (g := gb291) (o := .cells #[.int .i64 a0_0, .int .u64 a0_1, .slice A0_2 l0_2.length c0_2, .bool a0_3, .int .i64 a0_4] 54 (0, 0)) (by (with_reducible repeat (first | refine bw_ ?_ _ | refine bx_ ?_ | refine bl_ ?_ _)); exact BK291.out)) : gb291 ≠ gb292)); have n6_ := am_ ((by rw [hg]; exact Nat.ne_of_gt (blk_lt (g := gb291) (o := .cells #[.int .i64 a0_0, .int .u64 a0_1, .slice A0_2 l0_2.length c0_2, .bool a0_3, .int .i64 a0_4] 54 (0, 0)) (by (with_reducible repeat (first | refine bw_ ?_ _ | refine bx_ ?_ | refine bl_ ?_ _)); exact BK291.out)) : gb292 ≠ gb291)); clear BK291; clear HB; have BK291 := n0_; have HB := n1_; have BK292 := n2_; have GW292 := n3_; have GE292 := n4_; have NB291_292 := n5_; have NB292_291 := n6_; clear n0_ n1_ n2_ n3_ n4_ n5_ n6_; clear hb hbox hg; have hnb15 := NB291_292.out; have hnc15 := NB292_291.out; have hcz16_0 : w14.cell? ⟨gb291, 0, none⟩ = some (.int .i64 a0_0) := (bc_ BK291.out 0).trans rfl; have hcz16_1 : w14.cell? ⟨gb291, 1, none⟩ = some (.int .u64 a0_1) := (bc_ BK291.out 1).trans rfl; have hcz16_2 : w14.cell? ⟨gb291, 2, none⟩ = some (.slice A0_2 l0_2.length c0_2) := (bc_ BK291.out 2).trans rfl; have hcz16_3 : w14.cell? ⟨gb291, 3, none⟩ = some (.bool a0_3) := (bc_ BK291.out 3).trans rfl; have hcz16_4 : w14.cell? ⟨gb291, 4, none⟩ = some (.int .i64 a0_4) := (bc_ BK291.out 4).trans rfl; have hfz16_0 := bf_ BK291.out 0; have hfz16_1 := bf_ BK291.out 1; have hfz16_2 := bf_ BK291.out 2; have hfz16_3 := bf_ BK291.out 3; have hfz16_4 := bf_ BK291.out 4; have hcz17_0 : w14.cell? ⟨gb292, 0, none⟩ = some (.int .i64 a1_0) := (bc_ BK292.out 0).trans rfl; have hcz17_1 : w14.cell? ⟨gb292, 1, none⟩ = some (.int .u64 a1_1) := (bc_ BK292.out 1).trans rfl; have hcz17_2 : w14.cell? ⟨gb292, 2, none⟩ = some (.slice A1_2 l1_2.length c1_2) := (bc_ BK292.out 2).trans rfl; have hcz17_3 : w14.cell? ⟨gb292, 3, none⟩ = some (.bool a1_3) := (bc_ BK292.out 3).trans rfl; have hcz17_4 : w14.cell? ⟨gb292, 4, none⟩ = some (.int .i64 a1_4) := (bc_ BK292.out 4).trans rfl; have hfz17_0 := bf_ BK292.out 0; have hfz17_1 := bf_ BK292.out 1; have hfz17_2 := bf_ BK292.out 2; have hfz17_3 := bf_ BK292.out 3; have hfz17_4 := bf_ BK292.out 4))
     go_ret
     exact ⟨by first | rfl | (simp [errW_none, errW_some] <;> rfl) | (simp [*, errW_none, errW_some] <;> rfl), by repeat (first | (with_reducible first | exact HB.out | apply ba_ | apply bn_ | apply bd_ | refine be_ ?_ GE291.out | refine be_ ?_ GE292.out) | exact HB.out)⟩
   ·rw [if_neg c5] at H
    have c5b0 : (a0_3 == a1_3) = false := by simpa using c5
    (try (have c5b1 : decide (a0_3 = a1_3) = false := by simpa using c5))
    (try (have c5b2 : (a0_3 == a1_3) = false := by simpa using c5))
    (try (have c5b3 : ¬ (a0_3 = a1_3) := by simpa using c5))
    clear c5
    obtain rfl := Option.some.inj H
    go_enter Tryd.func43, Tryd.ntmps43
    go_wp2_with (first | ((with_reducible refine gate_dst (N := 2) rfl ?_); refine box_event ?hg (N := 2) ?hd (cs := #[.int .i64 a0_0, .int .u64 a0_1, .slice A0_2 l0_2.length c0_2, .bool a0_3, .int .i64 a0_4]) (t := 54) ?hr ?_; (case hd => rfl); (case hg => rfl); (case hr => first | (go_simp; done) | (go_simp; rfl)); intro gb291 hg w18 hbox hb; have n0_ := am_ (bt_ (by repeat (first | (with_reducible first | exact HB.out | apply ba_ | apply bn_ | apply bd_) | exact HB.out)) hb); have n1_ := am_ (hbox); have n2_ := am_ ((by rw [hg]; exact (bs_ (by repeat (first | (with_reducible first | exact HB.out | apply ba_ | apply bn_ | apply bd_) | exact HB.out))) : w.heap.size ≤ gb291)); have n3_ := am_ ((by rw [hg]; exact (bs_ (by repeat (first | (with_reducible first | exact HB.out | apply ba_ | apply bn_ | apply bd_) | exact HB.out))) : w.heap.size ≤ gb291)); clear HB; have HB := n0_; have BK291 := n1_; have GW291 := n2_; have GE291 := n3_; clear n0_ n1_ n2_ n3_; clear hb hbox hg) | ((with_reducible refine gate_dst (N := 3) rfl ?_); refine box_event ?hg (N := 3) ?hd (cs := #[.int .i64 a1_0, .int .u64 a1_1, .slice A1_2 l1_2.length c1_2, .bool a1_3, .int .i64 a1_4]) (t := 54) ?hr ?_; (case hd => rfl); (case hg => rfl); (case hr => first | (go_simp; done) | (go_simp; rfl)); intro gb292 hg w19 hbox hb; have n0_ := am_ (blk_below (g := gb291) (o := .cells #[.int .i64 a0_0, .int .u64 a0_1, .slice A0_2 l0_2.length c0_2, .bool a0_3, .int .i64 a0_4] 54 (0, 0)) (by (with_reducible repeat (first | refine bw_ ?_ _ | refine bx_ ?_ | refine bl_ ?_ _)); exact BK291.out) hb); have n1_ := am_ (bt_ (by repeat (first | (with_reducible first | exact HB.out | apply ba_ | apply bn_ | apply bd_ | refine be_ ?_ GE291.out) | exact HB.out)) hb); have n2_ := am_ (hbox); have n3_ := am_ ((by rw [hg]; exact (bs_ (by repeat (first | (with_reducible first | exact HB.out | apply ba_ | apply bn_ | apply bd_ | refine be_ ?_ GE291.out) | exact HB.out))) : w.heap.size ≤ gb292)); have n4_ := am_ ((by rw [hg]; exact (bs_ (by repeat (first | (with_reducible first | exact HB.out | apply ba_ | apply bn_ | apply bd_ | refine be_ ?_ GE291.out) | exact HB.out))) : w.heap.size ≤ gb292)); have n5_ := am_ ((by rw [hg]; exact Nat.ne_of_lt (blk_lt (g := gb291) (o := .cells #[.int .i64 a0_0, .int .u64 a0_1, .slice A0_2 l0_2.length c0_2, .bool a0_3, .int .i64 a0_4] 54 (0, 0)) (by (with_reducible repeat (first | refine bw_ ?_ _ | refine bx_ ?_ | refine bl_ ?_ _)); exact BK291.out)) : gb291 ≠ gb292)); have n6_ := am_ ((by rw [hg]; exact Nat.ne_of_gt (blk_lt (g := gb291) (o := .cells #[.int .i64 a0_0, .int .u64 a0_1, .slice A0_2 l0_2.length c0_2, .bool a0_3, .int .i64 a0_4] 54 (0, 0)) (by (with_reducible repeat (first | refine bw_ ?_ _ | refine bx_ ?_ | refine bl_ ?_ _)); exact BK291.out)) : gb292 ≠ gb291)); clear BK291; clear HB; have BK291 := n0_; have HB := n1_; have BK292 := n2_; have GW292 := n3_; have GE292 := n4_; have NB291_292 := n5_; have NB292_291 := n6_; clear n0_ n1_ n2_ n3_ n4_ n5_ n6_; clear hb hbox hg; have hnb20 := NB291_292.out; have hnc20 := NB292_291.out; have hcz21_0 : w19.cell? ⟨gb291, 0, none⟩ = some (.int .i64 a0_0) := (bc_ BK291.out 0).trans rfl; have hcz21_1 : w19.cell? ⟨gb291, 1, none⟩ = some (.int .u64 a0_1) := (bc_ BK291.out 1).trans rfl; have hcz21_2 : w19.cell? ⟨gb291, 2, none⟩ = some (.slice A0_2 l0_2.length c0_2) := (bc_ BK291.out 2).trans rfl; have hcz21_3 : w19.cell? ⟨gb291, 3, none⟩ = some (.bool a0_3) := (bc_ BK291.out 3).trans rfl; have hcz21_4 : w19.cell? ⟨gb291, 4, none⟩ = some (.int .i64 a0_4) := (bc_ BK291.out 4).trans rfl; have hfz21_0 := bf_ BK291.out 0; have hfz21_1 := bf_ BK291.out 1; have hfz21_2 := bf_ BK291.out 2; have hfz21_3 := bf_ BK291.out 3; have hfz21_4 := bf_ BK291.out 4; have hcz22_0 : w19.cell? ⟨gb292, 0, none⟩ = some (.int .i64 a1_0) := (bc_ BK292.out 0).trans rfl; have hcz22_1 : w19.cell? ⟨gb292, 1, none⟩ = some (.int .u64 a1_1) := (bc_ BK292.out 1).trans rfl; have hcz22_2 : w19.cell? ⟨gb292, 2, none⟩ = some (.slice A1_2 l1_2.length c1_2) := (bc_ BK292.out 2).trans rfl; have hcz22_3 : w19.cell? ⟨gb292, 3, none⟩ = some (.bool a1_3) := (bc_ BK292.out 3).trans rfl; have hcz22_4 : w19.cell? ⟨gb292, 4, none⟩ = some (.int .i64 a1_4) := (bc_ BK292.out 4).trans rfl; have hfz22_0 := bf_ BK292.out 0; have hfz22_1 := bf_ BK292.out 1; have hfz22_2 := bf_ BK292.out 2; have hfz22_3 := bf_ BK292.out 3; have hfz22_4 := bf_ BK292.out 4))
    go_ret
    exact ⟨by first | rfl | (simp [errW_none, errW_some] <;> rfl) | (simp [*, errW_none, errW_some] <;> rfl), by repeat (first | (with_reducible first | exact HB.out | apply ba_ | apply bn_ | apply bd_ | refine be_ ?_ GE291.out | refine be_ ?_ GE292.out) | exact HB.out)⟩
  ·rw [if_neg c4] at H
   have c4b0 : (a0_1 == a1_1) = false := beq_eq_false_iff_ne.mpr c4
   have c4b1 : (a0_1 != a1_1) = true := bne_iff_ne.mpr c4
   obtain rfl := Option.some.inj H
   go_enter Tryd.func43, Tryd.ntmps43
   go_wp2_with (first | ((with_reducible refine gate_dst (N := 2) rfl ?_); refine box_event ?hg (N := 2) ?hd (cs := #[.int .i64 a0_0, .int .u64 a0_1, .slice A0_2 l0_2.length c0_2, .bool a0_3, .int .i64 a0_4]) (t := 54) ?hr ?_; (case hd => rfl); (case hg => rfl); (case hr => first | (go_simp; done) | (go_simp; rfl)); intro gb291 hg w23 hbox hb; have n0_ := am_ (bt_ (by repeat (first | (with_reducible first | exact HB.out | apply ba_ | apply bn_ | apply bd_) | exact HB.out)) hb); have n1_ := am_ (hbox); have n2_ := am_ ((by rw [hg]; exact (bs_ (by repeat (first | (with_reducible first | exact HB.out | apply ba_ | apply bn_ | apply bd_) | exact HB.out))) : w.heap.size ≤ gb291)); have n3_ := am_ ((by rw [hg]; exact (bs_ (by repeat (first | (with_reducible first | exact HB.out | apply ba_ | apply bn_ | apply bd_) | exact HB.out))) : w.heap.size ≤ gb291)); clear HB; have HB := n0_; have BK291 := n1_; have GW291 := n2_; have GE291 := n3_; clear n0_ n1_ n2_ n3_; clear hb hbox hg) | ((with_reducible refine gate_dst (N := 3) rfl ?_); refine box_event ?hg (N := 3) ?hd (cs := #[.int .i64 a1_0, .int .u64 a1_1, .slice A1_2 l1_2.length c1_2, .bool a1_3, .int .i64 a1_4]) (t := 54) ?hr ?_; (case hd => rfl); (case hg => rfl); (case hr => first | (go_simp; done) | (go_simp; rfl)); intro gb292 hg w24 hbox hb; have n0_ := am_ (blk_below (g := gb291) (o := .cells #[.int .i64 a0_0, .int .u64 a0_1, .slice A0_2 l0_2.length c0_2, .bool a0_3, .int .i64 a0_4] 54 (0, 0)) (by (with_reducible repeat (first | refine bw_ ?_ _ | refine bx_ ?_ | refine bl_ ?_ _)); exact BK291.out) hb); have n1_ := am_ (bt_ (by repeat (first | (with_reducible first | exact HB.out | apply ba_ | apply bn_ | apply bd_ | refine be_ ?_ GE291.out) | exact HB.out)) hb); have n2_ := am_ (hbox); have n3_ := am_ ((by rw [hg]; exact (bs_ (by repeat (first | (with_reducible first | exact HB.out | apply ba_ | apply bn_ | apply bd_ | refine be_ ?_ GE291.out) | exact HB.out))) : w.heap.size ≤ gb292)); have n4_ := am_ ((by rw [hg]; exact (bs_ (by repeat (first | (with_reducible first | exact HB.out | apply ba_ | apply bn_ | apply bd_ | refine be_ ?_ GE291.out) | exact HB.out))) : w.heap.size ≤ gb292)); have n5_ := am_ ((by rw [hg]; exact Nat.ne_of_lt (blk_lt (g := gb291) (o := .cells #[.int .i64 a0_0, .int .u64 a0_1, .slice A0_2 l0_2.length c0_2, .bool a0_3, .int .i64 a0_4] 54 (0, 0)) (by (with_reducible repeat (first | refine bw_ ?_ _ | refine bx_ ?_ | refine bl_ ?_ _)); exact BK291.out)) : gb291 ≠ gb292)); have n6_ := am_ ((by rw [hg]; exact Nat.ne_of_gt (blk_lt (g := gb291) (o := .cells #[.int .i64 a0_0, .int .u64 a0_1, .slice A0_2 l0_2.length c0_2, .bool a0_3, .int .i64 a0_4] 54 (0, 0)) (by (with_reducible repeat (first | refine bw_ ?_ _ | refine bx_ ?_ | refine bl_ ?_ _)); exact BK291.out)) : gb292 ≠ gb291)); clear BK291; clear HB; have BK291 := n0_; have HB := n1_; have BK292 := n2_; have GW292 := n3_; have GE292 := n4_; have NB291_292 := n5_; have NB292_291 := n6_; clear n0_ n1_ n2_ n3_ n4_ n5_ n6_; clear hb hbox hg; have hnb25 := NB291_292.out; have hnc25 := NB292_291.out; have hcz26_0 : w24.cell? ⟨gb291, 0, none⟩ = some (.int .i64 a0_0) := (bc_ BK291.out 0).trans rfl; have hcz26_1 : w24.cell? ⟨gb291, 1, none⟩ = some (.int .u64 a0_1) := (bc_ BK291.out 1).trans rfl; have hcz26_2 : w24.cell? ⟨gb291, 2, none⟩ = some (.slice A0_2 l0_2.length c0_2) := (bc_ BK291.out 2).trans rfl; have hcz26_3 : w24.cell? ⟨gb291, 3, none⟩ = some (.bool a0_3) := (bc_ BK291.out 3).trans rfl; have hcz26_4 : w24.cell? ⟨gb291, 4, none⟩ = some (.int .i64 a0_4) := (bc_ BK291.out 4).trans rfl; have hfz26_0 := bf_ BK291.out 0; have hfz26_1 := bf_ BK291.out 1; have hfz26_2 := bf_ BK291.out 2; have hfz26_3 := bf_ BK291.out 3; have hfz26_4 := bf_ BK291.out 4; have hcz27_0 : w24.cell? ⟨gb292, 0, none⟩ = some (.int .i64 a1_0) := (bc_ BK292.out 0).trans rfl; have hcz27_1 : w24.cell? ⟨gb292, 1, none⟩ = some (.int .u64 a1_1) := (bc_ BK292.out 1).trans rfl; have hcz27_2 : w24.cell? ⟨gb292, 2, none⟩ = some (.slice A1_2 l1_2.length c1_2) := (bc_ BK292.out 2).trans rfl; have hcz27_3 : w24.cell? ⟨gb292, 3, none⟩ = some (.bool a1_3) := (bc_ BK292.out 3).trans rfl; have hcz27_4 : w24.cell? ⟨gb292, 4, none⟩ = some (.int .i64 a1_4) := (bc_ BK292.out 4).trans rfl; have hfz27_0 := bf_ BK292.out 0; have hfz27_1 := bf_ BK292.out 1; have hfz27_2 := bf_ BK292.out 2; have hfz27_3 := bf_ BK292.out 3; have hfz27_4 := bf_ BK292.out 4))
   go_ret
   exact ⟨by first | rfl | (simp [errW_none, errW_some] <;> rfl) | (simp [*, errW_none, errW_some] <;> rfl), by repeat (first | (with_reducible first | exact HB.out | apply ba_ | apply bn_ | apply bd_ | refine be_ ?_ GE291.out | refine be_ ?_ GE292.out) | exact HB.out)⟩
 ·rw [if_neg c3] at H
  have c3b0 : (a0_0 == a1_0) = false := beq_eq_false_iff_ne.mpr c3
  have c3b1 : (a0_0 != a1_0) = true := bne_iff_ne.mpr c3
  obtain rfl := Option.some.inj H
  go_enter Tryd.func43, Tryd.ntmps43
  go_wp2_with (first | ((with_reducible refine gate_dst (N := 2) rfl ?_); refine box_event ?hg (N := 2) ?hd (cs := #[.int .i64 a0_0, .int .u64 a0_1, .slice A0_2 l0_2.length c0_2, .bool a0_3, .int .i64 a0_4]) (t := 54) ?hr ?_; (case hd => rfl); (case hg => rfl); (case hr => first | (go_simp; done) | (go_simp; rfl)); intro gb291 hg w28 hbox hb; have n0_ := am_ (bt_ (by repeat (first | (with_reducible first | exact HB.out | apply ba_ | apply bn_ | apply bd_) | exact HB.out)) hb); have n1_ := am_ (hbox); have n2_ := am_ ((by rw [hg]; exact (bs_ (by repeat (first | (with_reducible first | exact HB.out | apply ba_ | apply bn_ | apply bd_) | exact HB.out))) : w.heap.size ≤ gb291)); have n3_ := am_ ((by rw [hg]; exact (bs_ (by repeat (first | (with_reducible first | exact HB.out | apply ba_ | apply bn_ | apply bd_) | exact HB.out))) : w.heap.size ≤ gb291)); clear HB; have HB := n0_; have BK291 := n1_; have GW291 := n2_; have GE291 := n3_; clear n0_ n1_ n2_ n3_; clear hb hbox hg) | ((with_reducible refine gate_dst (N := 3) rfl ?_); refine box_event ?hg (N := 3) ?hd (cs := #[.int .i64 a1_0, .int .u64 a1_1, .slice A1_2 l1_2.length c1_2, .bool a1_3, .int .i64 a1_4]) (t := 54) ?hr ?_; (case hd => rfl); (case hg => rfl); (case hr => first | (go_simp; done) | (go_simp; rfl)); intro gb292 hg w29 hbox hb; have n0_ := am_ (blk_below (g := gb291) (o := .cells #[.int .i64 a0_0, .int .u64 a0_1, .slice A0_2 l0_2.length c0_2, .bool a0_3, .int .i64 a0_4] 54 (0, 0)) (by (with_reducible repeat (first | refine bw_ ?_ _ | refine bx_ ?_ | refine bl_ ?_ _)); exact BK291.out) hb); have n1_ := am_ (bt_ (by repeat (first | (with_reducible first | exact HB.out | apply ba_ | apply bn_ | apply bd_ | refine be_ ?_ GE291.out) | exact HB.out)) hb); have n2_ := am_ (hbox); have n3_ := am_ ((by rw [hg]; exact (bs_ (by repeat (first | (with_reducible first | exact HB.out | apply ba_ | apply bn_ | apply bd_ | refine be_ ?_ GE291.out) | exact HB.out))) : w.heap.size ≤ gb292)); have n4_ := am_ ((by rw [hg]; exact (bs_ (by repeat (first | (with_reducible first | exact HB.out | apply ba_ | apply bn_ | apply bd_ | refine be_ ?_ GE291.out) | exact HB.out))) : w.heap.size ≤ gb292)); have n5_ := am_ ((by rw [hg]; exact Nat.ne_of_lt (blk_lt (g := gb291) (o := .cells #[.int .i64 a0_0, .int .u64 a0_1, .slice A0_2 l0_2.length c0_2, .bool a0_3, .int .i64 a0_4] 54 (0, 0)) (by (with_reducible repeat (first | refine bw_ ?_ _ | refine bx_ ?_ | refine bl_ ?_ _)); exact BK291.out)) : gb291 ≠ gb292)); have n6_ := am_ ((by rw [hg]; exact Nat.ne_of_gt (blk_lt (g := gb291) (o := .cells #[.int .i64 a0_0, .int .u64 a0_1, .slice A0_2 l0_2.length c0_2, .bool a0_3, .int .i64 a0_4] 54 (0, 0)) (by (with_reducible repeat (first | refine bw_ ?_ _ | refine bx_ ?_ | refine bl_ ?_ _)); exact BK291.out)) : gb292 ≠ gb291)); clear BK291; clear HB; have BK291 := n0_; have HB := n1_; have BK292 := n2_; have GW292 := n3_; have GE292 := n4_; have NB291_292 := n5_; have NB292_291 := n6_; clear n0_ n1_ n2_ n3_ n4_ n5_ n6_; clear hb hbox hg; have hnb30 := NB291_292.out; have hnc30 := NB292_291.out; have hcz31_0 : w29.cell? ⟨gb291, 0, none⟩ = some (.int .i64 a0_0) := (bc_ BK291.out 0).trans rfl; have hcz31_1 : w29.cell? ⟨gb291, 1, none⟩ = some (.int .u64 a0_1) := (bc_ BK291.out 1).trans rfl; have hcz31_2 : w29.cell? ⟨gb291, 2, none⟩ = some (.slice A0_2 l0_2.length c0_2) := (bc_ BK291.out 2).trans rfl; have hcz31_3 : w29.cell? ⟨gb291, 3, none⟩ = some (.bool a0_3) := (bc_ BK291.out 3).trans rfl; have hcz31_4 : w29.cell? ⟨gb291, 4, none⟩ = some (.int .i64 a0_4) := (bc_ BK291.out 4).trans rfl; have hfz31_0 := bf_ BK291.out 0; have hfz31_1 := bf_ BK291.out 1; have hfz31_2 := bf_ BK291.out 2; have hfz31_3 := bf_ BK291.out 3; have hfz31_4 := bf_ BK291.out 4; have hcz32_0 : w29.cell? ⟨gb292, 0, none⟩ = some (.int .i64 a1_0) := (bc_ BK292.out 0).trans rfl; have hcz32_1 : w29.cell? ⟨gb292, 1, none⟩ = some (.int .u64 a1_1) := (bc_ BK292.out 1).trans rfl; have hcz32_2 : w29.cell? ⟨gb292, 2, none⟩ = some (.slice A1_2 l1_2.length c1_2) := (bc_ BK292.out 2).trans rfl; have hcz32_3 : w29.cell? ⟨gb292, 3, none⟩ = some (.bool a1_3) := (bc_ BK292.out 3).trans rfl; have hcz32_4 : w29.cell? ⟨gb292, 4, none⟩ = some (.int .i64 a1_4) := (bc_ BK292.out 4).trans rfl; have hfz32_0 := bf_ BK292.out 0; have hfz32_1 := bf_ BK292.out 1; have hfz32_2 := bf_ BK292.out 2; have hfz32_3 := bf_ BK292.out 3; have hfz32_4 := bf_ BK292.out 4))
  go_ret
  exact ⟨by first | rfl | (simp [errW_none, errW_some] <;> rfl) | (simp [*, errW_none, errW_some] <;> rfl), by repeat (first | (with_reducible first | exact HB.out | apply ba_ | apply bn_ | apply bd_ | refine be_ ?_ GE291.out | refine be_ ?_ GE292.out) | exact HB.out)⟩
def catenaryref09_SameAll.l0 : Nat → List (S54) → List (S54) → Int → Option (Bool)
 | 0, _, _, _ => none
 | k + 1, x0, x1, x5 => if x5 < (x0.length : Int) then (if 0 ≤ x5 then (if x5 < (x1.length : Int) then ((catenaryref09_Same.f k ((rd_T54 x0 x5).f0) ((rd_T54 x0 x5).f1) ((rd_T54 x0 x5).f2) ((rd_T54 x0 x5).f3) ((rd_T54 x0 x5).f4) ((rd_T54 x1 x5).f0) ((rd_T54 x1 x5).f1) ((rd_T54 x1 x5).f2) ((rd_T54 x1 x5).f3) ((rd_T54 x1 x5).f4)).bind fun t296 => (if t296 = true then (catenaryref09_SameAll.l0 k x0 x1 (wrap64 (x5 + 1))) else (some false))) else (none)) else (none)) else (some true)
def catenaryref09_SameAll.f (k : Nat) (l0 : List (S54)) (l1 : List (S54)) : Option (Bool) := if (l0.length : Int) = (l1.length : Int) then (catenaryref09_SameAll.l0 k l0 l1 0) else (some false)
def catenaryref09_SameAll.T6 : Bool × List (List Nat × List Nat) := (true, [([], []), ([], []), ([0, 1], [0, 1]), ([2], [2]), ([], []), ([], []), ([4, 5], [4, 5]), ([6], [6]), ([3, 7], [3, 7]), ([8], [8])])
def catenaryref09_SameAll.B6 : List Nat := [0, 0, 3, 7, 0, 0, 48, 112, 255, 511]
theorem catenaryref09_SameAll.tab6 : rtab .any (opsOf Tryd.f30 6) = catenaryref09_SameAll.T6 := by kernel_rfl
theorem catenaryref09_SameAll.bits6 : waitsOk catenaryref09_SameAll.T6.2 catenaryref09_SameAll.B6 = true := by kernel_rfl
set_option maxHeartbeats 8000000 in
set_option maxRecDepth 100000 in
theorem catenaryref09_SameAll.calls (k : Nat) (A0 : Option Addr) (c0 : Nat) (l0 : List (S54)) (A1 : Option Addr) (c1 : Nat) (l1 : List (S54)) (r : Bool) (w : World) (hr0 : Kd.C k54 w A0 l0.length l0) (hc0 : l0.length ≤ c0) (hr1 : Kd.C k54 w A1 l1.length l1) (hc1 : l1.length ≤ c1) (h : catenaryref09_SameAll.f k l0 l1 = some r) :
  Calls Tryd.prog 30 #[.slice A0 l0.length c0, .slice A1 l1.length c1] w fun e w' => e = .returned (.bool r) ∧ Below w.heap.size w w' := by
 have hu54 := Tryd.underlying54
 have HR0 := am_ hr0
 have HC0 := am_ hc0
 clear hr0 hc0
 have HR1 := am_ hr1
 have HC1 := am_ hc1
 clear hr1 hc1
 have HB := am_ (Below.refl w.heap.size w)
 have H : (if (l0.length : Int) = (l1.length : Int) then (catenaryref09_SameAll.l0 k l0 l1 0) else (some false)) = some r := h
 clear h
 by_cases c3 : (l0.length : Int) = (l1.length : Int)
 ·rw [if_pos c3] at H
  have c3b0 : ((l0.length : Int) == (l1.length : Int)) = true := beq_iff_eq.mpr c3
  have c3b1 : ((l0.length : Int) != (l1.length : Int)) = false := bne_eq_false_iff_eq.mpr c3
  have c3b2 : (l0.length == l1.length) = true := by first | simpa using c3 | (simp at c3 ⊢; omega)
  clear c3
  have H' := am_ H
  clear H
  go_enter Tryd.func30, Tryd.ntmps30
  go_wp2
  go_loopg [5] k (fun kq v5 w' => ∃ (x5_1 : Int), v5 = .int .i64 x5_1 ∧ Aside0 (catenaryref09_SameAll.l0 kq l0 l1 x5_1 = some r) ∧ Aside0 (kq ≤ k) ∧ Aside0 (Below w.heap.size w w'))
  case atStart => exact ⟨(0), (by first | rfl | (simp; done) | (simp [*]; done)), H', ⟨Nat.le_refl _⟩, ⟨by repeat (first | (with_reducible first | exact HB.out | apply ba_ | apply bn_ | apply bd_) | exact HB.out)⟩⟩
  case round =>
   clear H'
   try clear c1
   try clear p2
   try clear c3
   try clear c3b0
   try clear c3b1
   try clear c3b2
   obtain ⟨x5_1, rfl, HA, HK1, HB⟩ := hrel
   cases gk with
   | zero => exact absurd HA.out (by simp [catenaryref09_SameAll.l0])
   | succ k1 =>
    have H := HA.out
    clear HA
    simp only [catenaryref09_SameAll.l0] at H
    by_cases c4 : x5_1 < (l0.length : Int)
    ·rw [if_pos c4] at H
     have c4b0 : decide (x5_1 < (l0.length : Int)) = true := decide_eq_true c4
     clear c4
     by_cases c5 : 0 ≤ x5_1
     ·rw [if_pos c5] at H
      have c5b0 : decide (0 ≤ x5_1) = true := decide_eq_true c5
      clear c5
      by_cases c6 : x5_1 < (l1.length : Int)
      ·rw [if_pos c6] at H
       have c6b0 : decide (x5_1 < (l1.length : Int)) = true := decide_eq_true c6
       clear c6
       replace H := Option.bind_eq_some_iff.mp H
       obtain ⟨t296, A70, H⟩ := H
       replace H : (if t296 = true then (catenaryref09_SameAll.l0 k1 l0 l1 (wrap64 (x5_1 + 1))) else (some false)) = some r := H
       have A7 := am_ A70
       clear A70
       by_cases c8 : t296 = true
       ·subst c8
        have H1 : (catenaryref09_SameAll.l0 k1 l0 l1 (wrap64 (x5_1 + 1))) = some r := by rw [if_pos rfl] at H; exact H
        clear H
        have H := H1
        clear H1
        have H' := am_ H
        clear H
        try go_wp2
        have n0_ := am_ (bd_ HB.out)
        clear HB
        have HB := n0_
        clear n0_
        have p294 : 0 ≤ (x5_1 : Int) := od_ (by first | (with_reducible assumption) | assumption)
        have q294 : x5_1 < (l0.length : Int) := od_ (by first | (with_reducible assumption) | assumption)
        obtain ⟨ad294, A294_2, c294_2, e294, hx294_0, hx294_1, hx294_2, hx294_3, hx294_4, hl294_2, hi294_2⟩ := at_T54 HR0.out x5_1 p294 q294
        have hw294_4 := hx294_4
        have hw294_3 := hx294_3
        have hw294_2 := hx294_2
        have hw294_1 := hx294_1
        have hw294_0 := hx294_0
        cases e294
        replace hx294_0 := (HB.out.cell (cl_ w _ hx294_0)).trans hx294_0
        replace hx294_1 := (HB.out.cell (cl_ w _ hx294_1)).trans hx294_1
        replace hx294_2 := (HB.out.cell (cl_ w _ hx294_2)).trans hx294_2
        replace hx294_3 := (HB.out.cell (cl_ w _ hx294_3)).trans hx294_3
        replace hx294_4 := (HB.out.cell (cl_ w _ hx294_4)).trans hx294_4
        have HR294_2 := am_ hi294_2
        have HC294_2 := am_ hl294_2
        clear hi294_2 hl294_2
        replace p294 := eq_true p294
        replace q294 := eq_true q294
        have p295 : 0 ≤ (x5_1 : Int) := od_ (by first | (with_reducible assumption) | assumption)
        have q295 : x5_1 < (l1.length : Int) := od_ (by first | (with_reducible assumption) | assumption)
        obtain ⟨ad295, A295_2, c295_2, e295, hx295_0, hx295_1, hx295_2, hx295_3, hx295_4, hl295_2, hi295_2⟩ := at_T54 HR1.out x5_1 p295 q295
        have hw295_4 := hx295_4
        have hw295_3 := hx295_3
        have hw295_2 := hx295_2
        have hw295_1 := hx295_1
        have hw295_0 := hx295_0
        cases e295
        replace hx295_0 := (HB.out.cell (cl_ w _ hx295_0)).trans hx295_0
        replace hx295_1 := (HB.out.cell (cl_ w _ hx295_1)).trans hx295_1
        replace hx295_2 := (HB.out.cell (cl_ w _ hx295_2)).trans hx295_2
        replace hx295_3 := (HB.out.cell (cl_ w _ hx295_3)).trans hx295_3
        replace hx295_4 := (HB.out.cell (cl_ w _ hx295_4)).trans hx295_4
        have HR295_2 := am_ hi295_2
        have HC295_2 := am_ hl295_2
        clear hi295_2 hl295_2
        replace p295 := eq_true p295
        replace q295 := eq_true q295
        refine start_ (n := 10) (S := fun w' => w'.cell? (ad294.add ((x5_1).toNat * 5)) = some (.int .i64 ((rd_T54 l0 x5_1).f0)) ∧ w'.cell? ⟨(ad294.add ((x5_1).toNat * 5)).block, (ad294.add ((x5_1).toNat * 5)).off + 1, none⟩ = some (.int .u64 ((rd_T54 l0 x5_1).f1)) ∧ w'.cell? ⟨(ad294.add ((x5_1).toNat * 5)).block, (ad294.add ((x5_1).toNat * 5)).off + 2, none⟩ = some (.slice A294_2 ((rd_T54 l0 x5_1).f2).length c294_2) ∧ w'.cell? ⟨(ad294.add ((x5_1).toNat * 5)).block, (ad294.add ((x5_1).toNat * 5)).off + 3, none⟩ = some (.bool ((rd_T54 l0 x5_1).f3)) ∧ w'.cell? ⟨(ad294.add ((x5_1).toNat * 5)).block, (ad294.add ((x5_1).toNat * 5)).off + 4, none⟩ = some (.int .i64 ((rd_T54 l0 x5_1).f4)) ∧ w'.cell? (ad295.add ((x5_1).toNat * 5)) = some (.int .i64 ((rd_T54 l1 x5_1).f0)) ∧ w'.cell? ⟨(ad295.add ((x5_1).toNat * 5)).block, (ad295.add ((x5_1).toNat * 5)).off + 1, none⟩ = some (.int .u64 ((rd_T54 l1 x5_1).f1)) ∧ w'.cell? ⟨(ad295.add ((x5_1).toNat * 5)).block, (ad295.add ((x5_1).toNat * 5)).off + 2, none⟩ = some (.slice A295_2 ((rd_T54 l1 x5_1).f2).length c295_2) ∧ w'.cell? ⟨(ad295.add ((x5_1).toNat * 5)).block, (ad295.add ((x5_1).toNat * 5)).off + 3, none⟩ = some (.bool ((rd_T54 l1 x5_1).f3)) ∧ w'.cell? ⟨(ad295.add ((x5_1).toNat * 5)).block, (ad295.add ((x5_1).toNat * 5)).off + 4, none⟩ = some (.int .i64 ((rd_T54 l1 x5_1).f4))) (ds := []) #[false, false, false, false, false, false, false, false, false, false] (by kernel_rfl) rfl rfl ⟨((HB.out.cell (cl_ w _ hw294_0)).trans hw294_0), ((HB.out.cell (cl_ w _ hw294_1)).trans hw294_1), ((HB.out.cell (cl_ w _ hw294_2)).trans hw294_2), ((HB.out.cell (cl_ w _ hw294_3)).trans hw294_3), ((HB.out.cell (cl_ w _ hw294_4)).trans hw294_4), ((HB.out.cell (cl_ w _ hw295_0)).trans hw295_0), ((HB.out.cell (cl_ w _ hw295_1)).trans hw295_1), ((HB.out.cell (cl_ w _ hw295_2)).trans hw295_2), ((HB.out.cell (cl_ w _ hw295_3)).trans hw295_3), ((HB.out.cell (cl_ w _ hw295_4)).trans hw295_4)⟩ (fun hHeld => ?_); refine with_tabW catenaryref09_SameAll.tab6 catenaryref09_SameAll.bits6 (fun HT_ HW_ => ?_)
        generalize wr.drew = w9 at HB HR294_2 HR295_2 hx294_0 hx294_1 hx294_2 hx294_3 hx294_4 hx295_0 hx295_1 hx295_2 hx295_3 hx295_4 hHeld ⊢
        refine pure_ (i := 0) (N := some 17) (v := ?_) (a' := ?_) #[true, false, false, false, false, false, false, false, false, false] rfl rfl (any_of HT_.out (by kernel_rfl)) (fun _ _ _ h => h) (Or.inl ⟨by rfl, ?_⟩) ?_ ?_
        rotate_left
        ·intro w'
         go_simp
         with_reducible rfl
        rotate_left
        ·simp only [Act.put, sa_, sz_, ss_, i64_w, i32_w]
         rfl
        refine pure_ (i := 1) (N := some 18) (v := ?_) (a' := ?_) #[true, true, false, false, false, false, false, false, false, false] rfl rfl (any_of HT_.out (by kernel_rfl)) (fun _ _ _ h => h) (Or.inl ⟨by rfl, ?_⟩) ?_ ?_
        rotate_left
        ·intro w'
         go_simp
         with_reducible rfl
        rotate_left
        ·simp only [Act.put, sa_, sz_, ss_, i64_w, i32_w]
         rfl
        refine pure_ (i := 2) (N := some 19) (v := ?_) (a' := ?_) #[true, true, true, false, false, false, false, false, false, false] rfl rfl (any_of HT_.out (by kernel_rfl)) (fun _ _ _ h => h) (Or.inl ⟨by rfl, ?_⟩) ?_ ?_
        rotate_left
        ·intro w'
         go_simp
         with_reducible rfl
        rotate_left
        ·simp only [Act.put, sa_, sz_, ss_, i64_w, i32_w]
         rfl
        refine pure_ (i := 4) (N := some 21) (v := ?_) (a' := ?_) #[true, true, true, false, true, false, false, false, false, false] rfl rfl (any_of HT_.out (by kernel_rfl)) (fun _ _ _ h => h) (Or.inl ⟨by rfl, ?_⟩) ?_ ?_
        rotate_left
        ·intro w'
         go_simp
         with_reducible rfl
        rotate_left
        ·simp only [Act.put, sa_, sz_, ss_, i64_w, i32_w]
         rfl
        refine pure_ (i := 5) (N := some 22) (v := ?_) (a' := ?_) #[true, true, true, false, true, true, false, false, false, false] rfl rfl (any_of HT_.out (by kernel_rfl)) (fun _ _ _ h => h) (Or.inl ⟨by rfl, ?_⟩) ?_ ?_
        rotate_left
        ·intro w'
         go_simp
         with_reducible rfl
        rotate_left
        ·simp only [Act.put, sa_, sz_, ss_, i64_w, i32_w]
         rfl
        refine pure_ (i := 6) (N := some 23) (v := ?_) (a' := ?_) #[true, true, true, false, true, true, true, false, false, false] rfl rfl (any_of HT_.out (by kernel_rfl)) (fun _ _ _ h => h) (Or.inl ⟨by rfl, ?_⟩) ?_ ?_
        rotate_left
        ·intro w'
         go_simp
         with_reducible rfl
        rotate_left
        ·simp only [Act.put, sa_, sz_, ss_, i64_w, i32_w]
         rfl
        refine take_ (i := 3) (N := some 20) (v := ?_) (a' := ?_) #[true, true, true, true, true, true, true, false, false, false] rfl rfl (take_ofW HT_.out HW_.out (by kernel_rfl)) (fun _ _ _ h => h) (Or.inl ⟨by rfl, ?_⟩) hHeld ?_ ?_
        rotate_left
        ·rintro w' ⟨s0, s1, s2, s3, s4, s5, s6, s7, s8, s9⟩
         go_simp
         with_reducible rfl
        rotate_left
        ·simp only [Act.put, sa_, sz_, ss_, i64_w, i32_w]
         rfl
        refine take_ (i := 7) (N := some 24) (v := ?_) (a' := ?_) #[true, true, true, true, true, true, true, true, false, false] rfl rfl (take_ofW HT_.out HW_.out (by kernel_rfl)) (fun _ _ _ h => h) (Or.inl ⟨by rfl, ?_⟩) hHeld ?_ ?_
        rotate_left
        ·rintro w' ⟨s0, s1, s2, s3, s4, s5, s6, s7, s8, s9⟩
         go_simp
         with_reducible rfl
        rotate_left
        ·simp only [Act.put, sa_, sz_, ss_, i64_w, i32_w]
         rfl
        refine one_ (i := 8) (N := some 25) #[true, true, true, true, true, true, true, true, true, false] rfl rfl (one_of HT_.out (by kernel_rfl)) (by decide) (fun K hK => ?_)
        refine goes_ Tryd.func43 (by kernel_rfl) rfl #[.agg #[.int .i64 ((rd_T54 l0 x5_1).f0), .int .u64 ((rd_T54 l0 x5_1).f1), .slice A294_2 ((rd_T54 l0 x5_1).f2).length c294_2, .bool ((rd_T54 l0 x5_1).f3), .int .i64 ((rd_T54 l0 x5_1).f4)], .agg #[.int .i64 ((rd_T54 l1 x5_1).f0), .int .u64 ((rd_T54 l1 x5_1).f1), .slice A295_2 ((rd_T54 l1 x5_1).f2).length c295_2, .bool ((rd_T54 l1 x5_1).f3), .int .i64 ((rd_T54 l1 x5_1).f4)]] (by rfl) rfl rfl (by (try simp only [List.map_toArray, List.map_cons, List.map_nil]); first | done | rfl | (simp only [List.length_drop, lt_]; rfl)) ?_
        with_reducible refine (catenaryref09_Same.calls k1 ((rd_T54 l0 x5_1).f0) ((rd_T54 l0 x5_1).f1) _ _ ((rd_T54 l0 x5_1).f2) ((rd_T54 l0 x5_1).f3) ((rd_T54 l0 x5_1).f4) ((rd_T54 l1 x5_1).f0) ((rd_T54 l1 x5_1).f1) _ _ ((rd_T54 l1 x5_1).f2) ((rd_T54 l1 x5_1).f3) ((rd_T54 l1 x5_1).f4) true _ ?side1 ?side2 ?side3 ?side4 A7.out).mono ?_
        (case side1 => repeat (first | exact (Kd.C_below HR294_2.out HB.out) | (with_reducible refine Kd.C_alloc ?_ _) | (with_reducible refine Kd.C_drewN ?_ _) | (with_reducible refine Kd.C_drew ?_)))
        (case side2 => exact HC294_2.out)
        (case side3 => repeat (first | exact (Kd.C_below HR295_2.out HB.out) | (with_reducible refine Kd.C_alloc ?_ _) | (with_reducible refine Kd.C_drewN ?_ _) | (with_reducible refine Kd.C_drew ?_)))
        (case side4 => exact HC295_2.out)
        rintro e w10 ⟨rfl, hb⟩
        refine ⟨_, rfl, ?_⟩
        have n0_ := am_ (bt_ (by repeat (first | (with_reducible first | exact HB.out | apply ba_ | apply bn_ | apply bd_) | exact HB.out)) hb)
        clear HB
        have HB := n0_
        clear n0_
        (try clear hb)
        (try clear hb2)
        (try clear hk)
        (try clear hi)
        refine hK.out _ _ ⟨((HB.out.cell (cl_ w _ hw294_0)).trans hw294_0), ((HB.out.cell (cl_ w _ hw294_1)).trans hw294_1), ((HB.out.cell (cl_ w _ hw294_2)).trans hw294_2), ((HB.out.cell (cl_ w _ hw294_3)).trans hw294_3), ((HB.out.cell (cl_ w _ hw294_4)).trans hw294_4), ((HB.out.cell (cl_ w _ hw295_0)).trans hw295_0), ((HB.out.cell (cl_ w _ hw295_1)).trans hw295_1), ((HB.out.cell (cl_ w _ hw295_2)).trans hw295_2), ((HB.out.cell (cl_ w _ hw295_3)).trans hw295_3), ((HB.out.cell (cl_ w _ hw295_4)).trans hw295_4)⟩ (fun hHeld => ?_)
        clear hK K
        refine norm_ (a' := ?_) ?_ ?_
        rotate_left
        ·show Act.put _ (some 25) _ = _
         simp only [Act.put, sa_, sz_, ss_, i64_w, i32_w]
         rfl
        refine pure_ (i := 9) (N := some 26) (v := ?_) (a' := ?_) #[true, true, true, true, true, true, true, true, true, true] rfl rfl (any_of HT_.out (by kernel_rfl)) (fun _ _ _ h => h) (Or.inl ⟨by rfl, ?_⟩) ?_ ?_
        rotate_left
        ·intro w'
         go_simp
         with_reducible rfl
        rotate_left
        ·simp only [Act.put, sa_, sz_, ss_, i64_w, i32_w]
         rfl
        refine done_ (done_of HT_.out (by kernel_rfl)) ?_
        try go_wp2
        go_roundg k1
        case measure => have := HK1.out; omega
        case rel => exact ⟨(wrap64 (x5_1 + 1)), (by first | rfl | (simp; done) | (simp [*]; done)), H', ⟨by have := HK1.out; omega⟩, ⟨by repeat (first | (with_reducible first | exact HB.out | apply ba_ | apply bn_ | apply bd_) | exact HB.out)⟩⟩
       ·replace c8 := Bool.eq_false_iff.mpr c8
        subst c8
        have H1 : (some false) = some r := by rw [if_neg (show ¬ (false = true) by decide)] at H; exact H
        clear H
        have H := H1
        clear H1
        obtain rfl := Option.some.inj H
        try go_wp2
        have n0_ := am_ (bd_ HB.out)
        clear HB
        have HB := n0_
        clear n0_
        have p294 : 0 ≤ (x5_1 : Int) := od_ (by first | (with_reducible assumption) | assumption)
        have q294 : x5_1 < (l0.length : Int) := od_ (by first | (with_reducible assumption) | assumption)
        obtain ⟨ad294, A294_2, c294_2, e294, hx294_0, hx294_1, hx294_2, hx294_3, hx294_4, hl294_2, hi294_2⟩ := at_T54 HR0.out x5_1 p294 q294
        have hw294_4 := hx294_4
        have hw294_3 := hx294_3
        have hw294_2 := hx294_2
        have hw294_1 := hx294_1
        have hw294_0 := hx294_0
        cases e294
        replace hx294_0 := (HB.out.cell (cl_ w _ hx294_0)).trans hx294_0
        replace hx294_1 := (HB.out.cell (cl_ w _ hx294_1)).trans hx294_1
        replace hx294_2 := (HB.out.cell (cl_ w _ hx294_2)).trans hx294_2
        replace hx294_3 := (HB.out.cell (cl_ w _ hx294_3)).trans hx294_3
        replace hx294_4 := (HB.out.cell (cl_ w _ hx294_4)).trans hx294_4
        have HR294_2 := am_ hi294_2
        have HC294_2 := am_ hl294_2
        clear hi294_2 hl294_2
        replace p294 := eq_true p294
        replace q294 := eq_true q294
        have p295 : 0 ≤ (x5_1 : Int) := od_ (by first | (with_reducible assumption) | assumption)
        have q295 : x5_1 < (l1.length : Int) := od_ (by first | (with_reducible assumption) | assumption)
        obtain ⟨ad295, A295_2, c295_2, e295, hx295_0, hx295_1, hx295_2, hx295_3, hx295_4, hl295_2, hi295_2⟩ := at_T54 HR1.out x5_1 p295 q295
        have hw295_4 := hx295_4
        have hw295_3 := hx295_3
        have hw295_2 := hx295_2
        have hw295_1 := hx295_1
        have hw295_0 := hx295_0
        cases e295
        replace hx295_0 := (HB.out.cell (cl_ w _ hx295_0)).trans hx295_0
        replace hx295_1 := (HB.out.cell (cl_ w _ hx295_1)).trans hx295_1
        replace hx295_2 := (HB.out.cell (cl_ w _ hx295_2)).trans hx295_2
        replace hx295_3 := (HB.out.cell (cl_ w _ hx295_3)).trans hx295_3
        replace hx295_4 := (HB.out.cell (cl_ w _ hx295_4)).trans hx295_4
        have HR295_2 := am_ hi295_2
        have HC295_2 := am_ hl295_2
        clear hi295_2 hl295_2
        replace p295 := eq_true p295
        replace q295 := eq_true q295
        refine start_ (n := 10) (S := fun w' => w'.cell? (ad294.add ((x5_1).toNat * 5)) = some (.int .i64 ((rd_T54 l0 x5_1).f0)) ∧ w'.cell? ⟨(ad294.add ((x5_1).toNat * 5)).block, (ad294.add ((x5_1).toNat * 5)).off + 1, none⟩ = some (.int .u64 ((rd_T54 l0 x5_1).f1)) ∧ w'.cell? ⟨(ad294.add ((x5_1).toNat * 5)).block, (ad294.add ((x5_1).toNat * 5)).off + 2, none⟩ = some (.slice A294_2 ((rd_T54 l0 x5_1).f2).length c294_2) ∧ w'.cell? ⟨(ad294.add ((x5_1).toNat * 5)).block, (ad294.add ((x5_1).toNat * 5)).off + 3, none⟩ = some (.bool ((rd_T54 l0 x5_1).f3)) ∧ w'.cell? ⟨(ad294.add ((x5_1).toNat * 5)).block, (ad294.add ((x5_1).toNat * 5)).off + 4, none⟩ = some (.int .i64 ((rd_T54 l0 x5_1).f4)) ∧ w'.cell? (ad295.add ((x5_1).toNat * 5)) = some (.int .i64 ((rd_T54 l1 x5_1).f0)) ∧ w'.cell? ⟨(ad295.add ((x5_1).toNat * 5)).block, (ad295.add ((x5_1).toNat * 5)).off + 1, none⟩ = some (.int .u64 ((rd_T54 l1 x5_1).f1)) ∧ w'.cell? ⟨(ad295.add ((x5_1).toNat * 5)).block, (ad295.add ((x5_1).toNat * 5)).off + 2, none⟩ = some (.slice A295_2 ((rd_T54 l1 x5_1).f2).length c295_2) ∧ w'.cell? ⟨(ad295.add ((x5_1).toNat * 5)).block, (ad295.add ((x5_1).toNat * 5)).off + 3, none⟩ = some (.bool ((rd_T54 l1 x5_1).f3)) ∧ w'.cell? ⟨(ad295.add ((x5_1).toNat * 5)).block, (ad295.add ((x5_1).toNat * 5)).off + 4, none⟩ = some (.int .i64 ((rd_T54 l1 x5_1).f4))) (ds := []) #[false, false, false, false, false, false, false, false, false, false] (by kernel_rfl) rfl rfl ⟨((HB.out.cell (cl_ w _ hw294_0)).trans hw294_0), ((HB.out.cell (cl_ w _ hw294_1)).trans hw294_1), ((HB.out.cell (cl_ w _ hw294_2)).trans hw294_2), ((HB.out.cell (cl_ w _ hw294_3)).trans hw294_3), ((HB.out.cell (cl_ w _ hw294_4)).trans hw294_4), ((HB.out.cell (cl_ w _ hw295_0)).trans hw295_0), ((HB.out.cell (cl_ w _ hw295_1)).trans hw295_1), ((HB.out.cell (cl_ w _ hw295_2)).trans hw295_2), ((HB.out.cell (cl_ w _ hw295_3)).trans hw295_3), ((HB.out.cell (cl_ w _ hw295_4)).trans hw295_4)⟩ (fun hHeld => ?_); refine with_tabW catenaryref09_SameAll.tab6 catenaryref09_SameAll.bits6 (fun HT_ HW_ => ?_)
        generalize wr.drew = w11 at HB HR294_2 HR295_2 hx294_0 hx294_1 hx294_2 hx294_3 hx294_4 hx295_0 hx295_1 hx295_2 hx295_3 hx295_4 hHeld ⊢
        refine pure_ (i := 0) (N := some 17) (v := ?_) (a' := ?_) #[true, false, false, false, false, false, false, false, false, false] rfl rfl (any_of HT_.out (by kernel_rfl)) (fun _ _ _ h => h) (Or.inl ⟨by rfl, ?_⟩) ?_ ?_
        rotate_left
        ·intro w'
         go_simp
         with_reducible rfl
        rotate_left
        ·simp only [Act.put, sa_, sz_, ss_, i64_w, i32_w]
         rfl
        refine pure_ (i := 1) (N := some 18) (v := ?_) (a' := ?_) #[true, true, false, false, false, false, false, false, false, false] rfl rfl (any_of HT_.out (by kernel_rfl)) (fun _ _ _ h => h) (Or.inl ⟨by rfl, ?_⟩) ?_ ?_
        rotate_left
        ·intro w'
         go_simp
         with_reducible rfl
        rotate_left
        ·simp only [Act.put, sa_, sz_, ss_, i64_w, i32_w]
         rfl
        refine pure_ (i := 2) (N := some 19) (v := ?_) (a' := ?_) #[true, true, true, false, false, false, false, false, false, false] rfl rfl (any_of HT_.out (by kernel_rfl)) (fun _ _ _ h => h) (Or.inl ⟨by rfl, ?_⟩) ?_ ?_
        rotate_left
        ·intro w'
         go_simp
         with_reducible rfl
        rotate_left
        ·simp only [Act.put, sa_, sz_, ss_, i64_w, i32_w]
         rfl
        refine pure_ (i := 4) (N := some 21) (v := ?_) (a' := ?_) #[true, true, true, false, true, false, false, false, false, false] rfl rfl (any_of HT_.out (by kernel_rfl)) (fun _ _ _ h => h) (Or.inl ⟨by rfl, ?_⟩) ?_ ?_
        rotate_left
        ·intro w'
         go_simp
         with_reducible rfl
        rotate_left
        ·simp only [Act.put, sa_, sz_, ss_, i64_w, i32_w]
         rfl
        refine pure_ (i := 5) (N := some 22) (v := ?_) (a' := ?_) #[true, true, true, false, true, true, false, false, false, false] rfl rfl (any_of HT_.out (by kernel_rfl)) (fun _ _ _ h => h) (Or.inl ⟨by rfl, ?_⟩) ?_ ?_
        rotate_left
        ·intro w'
         go_simp
         with_reducible rfl
        rotate_left
        ·simp only [Act.put, sa_, sz_, ss_, i64_w, i32_w]
         rfl
        refine pure_ (i := 6) (N := some 23) (v := ?_) (a' := ?_) #[true, true, true, false, true, true, true, false, false, false] rfl rfl (any_of HT_.out (by kernel_rfl)) (fun _ _ _ h => h) (Or.inl ⟨by rfl, ?_⟩) ?_ ?_
        rotate_left
        ·intro w'
         go_simp
         with_reducible rfl
        rotate_left
        ·simp only [Act.put, sa_, sz_, ss_, i64_w, i32_w]
         rfl
        refine take_ (i := 3) (N := some 20) (v := ?_) (a' := ?_) #[true, true, true, true, true, true, true, false, false, false] rfl rfl (take_ofW HT_.out HW_.out (by kernel_rfl)) (fun _ _ _ h => h) (Or.inl ⟨by rfl, ?_⟩) hHeld ?_ ?_
        rotate_left
        ·rintro w' ⟨s0, s1, s2, s3, s4, s5, s6, s7, s8, s9⟩
         go_simp
         with_reducible rfl
        rotate_left
        ·simp only [Act.put, sa_, sz_, ss_, i64_w, i32_w]
         rfl
        refine take_ (i := 7) (N := some 24) (v := ?_) (a' := ?_) #[true, true, true, true, true, true, true, true, false, false] rfl rfl (take_ofW HT_.out HW_.out (by kernel_rfl)) (fun _ _ _ h => h) (Or.inl ⟨by rfl, ?_⟩) hHeld ?_ ?_
        rotate_left
        ·rintro w' ⟨s0, s1, s2, s3, s4, s5, s6, s7, s8, s9⟩
         go_simp
         with_reducible rfl
        rotate_left
        ·simp only [Act.put, sa_, sz_, ss_, i64_w, i32_w]
         rfl
        refine one_ (i := 8) (N := some 25) #[true, true, true, true, true, true, true, true, true, false] rfl rfl (one_of HT_.out (by kernel_rfl)) (by decide) (fun K hK => ?_)
        refine goes_ Tryd.func43 (by kernel_rfl) rfl #[.agg #[.int .i64 ((rd_T54 l0 x5_1).f0), .int .u64 ((rd_T54 l0 x5_1).f1), .slice A294_2 ((rd_T54 l0 x5_1).f2).length c294_2, .bool ((rd_T54 l0 x5_1).f3), .int .i64 ((rd_T54 l0 x5_1).f4)], .agg #[.int .i64 ((rd_T54 l1 x5_1).f0), .int .u64 ((rd_T54 l1 x5_1).f1), .slice A295_2 ((rd_T54 l1 x5_1).f2).length c295_2, .bool ((rd_T54 l1 x5_1).f3), .int .i64 ((rd_T54 l1 x5_1).f4)]] (by rfl) rfl rfl (by (try simp only [List.map_toArray, List.map_cons, List.map_nil]); first | done | rfl | (simp only [List.length_drop, lt_]; rfl)) ?_
        with_reducible refine (catenaryref09_Same.calls k1 ((rd_T54 l0 x5_1).f0) ((rd_T54 l0 x5_1).f1) _ _ ((rd_T54 l0 x5_1).f2) ((rd_T54 l0 x5_1).f3) ((rd_T54 l0 x5_1).f4) ((rd_T54 l1 x5_1).f0) ((rd_T54 l1 x5_1).f1) _ _ ((rd_T54 l1 x5_1).f2) ((rd_T54 l1 x5_1).f3) ((rd_T54 l1 x5_1).f4) false _ ?side1 ?side2 ?side3 ?side4 A7.out).mono ?_
        (case side1 => repeat (first | exact (Kd.C_below HR294_2.out HB.out) | (with_reducible refine Kd.C_alloc ?_ _) | (with_reducible refine Kd.C_drewN ?_ _) | (with_reducible refine Kd.C_drew ?_)))
        (case side2 => exact HC294_2.out)
        (case side3 => repeat (first | exact (Kd.C_below HR295_2.out HB.out) | (with_reducible refine Kd.C_alloc ?_ _) | (with_reducible refine Kd.C_drewN ?_ _) | (with_reducible refine Kd.C_drew ?_)))
        (case side4 => exact HC295_2.out)
        rintro e w12 ⟨rfl, hb⟩
        refine ⟨_, rfl, ?_⟩
        have n0_ := am_ (bt_ (by repeat (first | (with_reducible first | exact HB.out | apply ba_ | apply bn_ | apply bd_) | exact HB.out)) hb)
        clear HB
        have HB := n0_
        clear n0_
        (try clear hb)
        (try clear hb2)
        (try clear hk)
        (try clear hi)
        refine hK.out _ _ ⟨((HB.out.cell (cl_ w _ hw294_0)).trans hw294_0), ((HB.out.cell (cl_ w _ hw294_1)).trans hw294_1), ((HB.out.cell (cl_ w _ hw294_2)).trans hw294_2), ((HB.out.cell (cl_ w _ hw294_3)).trans hw294_3), ((HB.out.cell (cl_ w _ hw294_4)).trans hw294_4), ((HB.out.cell (cl_ w _ hw295_0)).trans hw295_0), ((HB.out.cell (cl_ w _ hw295_1)).trans hw295_1), ((HB.out.cell (cl_ w _ hw295_2)).trans hw295_2), ((HB.out.cell (cl_ w _ hw295_3)).trans hw295_3), ((HB.out.cell (cl_ w _ hw295_4)).trans hw295_4)⟩ (fun hHeld => ?_)
        clear hK K
        refine norm_ (a' := ?_) ?_ ?_
        rotate_left
        ·show Act.put _ (some 25) _ = _
         simp only [Act.put, sa_, sz_, ss_, i64_w, i32_w]
         rfl
        refine pure_ (i := 9) (N := some 26) (v := ?_) (a' := ?_) #[true, true, true, true, true, true, true, true, true, true] rfl rfl (any_of HT_.out (by kernel_rfl)) (fun _ _ _ h => h) (Or.inl ⟨by rfl, ?_⟩) ?_ ?_
        rotate_left
        ·intro w'
         go_simp
         with_reducible rfl
        rotate_left
        ·simp only [Act.put, sa_, sz_, ss_, i64_w, i32_w]
         rfl
        refine done_ (done_of HT_.out (by kernel_rfl)) ?_
        try go_wp2
        go_ret
        exact ⟨by first | rfl | (simp [errW_none, errW_some] <;> rfl) | (simp [*, errW_none, errW_some] <;> rfl), by repeat (first | (with_reducible first | exact HB.out | apply ba_ | apply bn_ | apply bd_) | exact HB.out)⟩
      ·rw [if_neg c6] at H
       exact absurd H (by simp)
     ·rw [if_neg c5] at H
      exact absurd H (by simp)
    ·rw [if_neg c4] at H
     have c4b0 : decide (x5_1 < (l0.length : Int)) = false := decide_eq_false c4
     clear c4
     obtain rfl := Option.some.inj H
     go_wp2
     go_ret
     exact ⟨by first | rfl | (simp [errW_none, errW_some] <;> rfl) | (simp [*, errW_none, errW_some] <;> rfl), by repeat (first | (with_reducible first | exact HB.out | apply ba_ | apply bn_ | apply bd_) | exact HB.out)⟩
 ·rw [if_neg c3] at H
  have c3b0 : ((l0.length : Int) == (l1.length : Int)) = false := beq_eq_false_iff_ne.mpr c3
  have c3b1 : ((l0.length : Int) != (l1.length : Int)) = true := bne_iff_ne.mpr c3
  have c3b2 : (l0.length == l1.length) = false := by first | simpa using c3 | (simp at c3 ⊢; omega)
  obtain rfl := Option.some.inj H
  go_enter Tryd.func30, Tryd.ntmps30
  go_wp2
  go_ret
  exact ⟨by first | rfl | (simp [errW_none, errW_some] <;> rfl) | (simp [*, errW_none, errW_some] <;> rfl), by repeat (first | (with_reducible first | exact HB.out | apply ba_ | apply bn_ | apply bd_) | exact HB.out)⟩
def conf_settled.f (a0_0 : Int) (a0_1 : Int) (l0_2 : List Int) (a0_3 : Bool) (a0_4 : Int) : Option (List Int) := if a0_3 = true then (if 0 ≤ (wrap64 ((l0_2.length : Int) - 1)) then (if (wrap64 ((l0_2.length : Int) - 1)) ≤ (l0_2.length : Int) then ((slices_Clone_int_int.f (l0_2.take ((wrap64 ((l0_2.length : Int) - 1)) : Int).toNat)).bind fun t321 => (some t321)) else (none)) else (none)) else ((slices_Clone_int_int.f l0_2).bind fun t324 => (some t324))
set_option maxHeartbeats 8000000 in
set_option maxRecDepth 100000 in
theorem conf_settled.calls (a0_0 : Int) (a0_1 : Int) (A0_2 : Option Addr) (c0_2 : Nat) (l0_2 : List Int) (a0_3 : Bool) (a0_4 : Int) (r : List Int) (w : World) (hr0_2 : Kd.C (Kd.int .i64) w A0_2 l0_2.length l0_2) (hc0_2 : l0_2.length ≤ c0_2) (h : conf_settled.f a0_0 a0_1 l0_2 a0_3 a0_4 = some r) :
  Calls Tryd.prog 70 #[.agg #[.int .i64 a0_0, .int .u64 a0_1, .slice A0_2 l0_2.length c0_2, .bool a0_3, .int .i64 a0_4]] w fun e w' => ∃ v0_ : Value, e = .returned (v0_) ∧ Kd.R (Kd.int .i64) 3 w' w.heap.size (fun _ => True) v0_ r ∧ Below w.heap.size w w' := by
 have hu54 := Tryd.underlying54
 have HR0_2 := am_ hr0_2
 have HC0_2 := am_ hc0_2
 clear hr0_2 hc0_2
 have HB := am_ (Below.refl w.heap.size w)
 have H : (if a0_3 = true then (if 0 ≤ (wrap64 ((l0_2.length : Int) - 1)) then (if (wrap64 ((l0_2.length : Int) - 1)) ≤ (l0_2.length : Int) then ((slices_Clone_int_int.f (l0_2.take ((wrap64 ((l0_2.length : Int) - 1)) : Int).toNat)).bind fun t321 => (some t321)) else (none)) else (none)) else ((slices_Clone_int_int.f l0_2).bind fun t324 => (some t324))) = some r := h
 clear h
 by_cases c2 : a0_3 = true
 ·subst c2
  have H1 : (if 0 ≤ (wrap64 ((l0_2.length : Int) - 1)) then (if (wrap64 ((l0_2.length : Int) - 1)) ≤ (l0_2.length : Int) then ((slices_Clone_int_int.f (l0_2.take ((wrap64 ((l0_2.length : Int) - 1)) : Int).toNat)).bind fun t321 => (some t321)) else (none)) else (none)) = some r := by rw [if_pos rfl] at H; exact H
  clear H
  have H := H1
  clear H1
  obtain ⟨ji3, hji3⟩ : ∃ j_ : Int, (wrap64 ((l0_2.length : Int) - 1)) = j_ := ⟨_, rfl⟩
  replace H : (if 0 ≤ (ji3) then (if (ji3) ≤ (l0_2.length : Int) then ((slices_Clone_int_int.f (l0_2.take ((ji3) : Int).toNat)).bind fun t321 => (some t321)) else (none)) else (none)) = some r := by first | (rw [hji3] at H; exact H) | (simp only [hji3] at H ⊢; exact H)
  have hji3w : (IntKind.i64.wrap ((l0_2.length : Int) - 1)) = ji3 := (i64_w _).trans hji3
  by_cases c4 : 0 ≤ (ji3)
  ·rw [if_pos c4] at H
   have c4b0 := eq_true c4
   have c4b1 : decide (0 ≤ (ji3)) = true := decide_eq_true c4
   clear c4
   by_cases c5 : (ji3) ≤ (l0_2.length : Int)
   ·rw [if_pos c5] at H
    have c5b0 := eq_true c5
    have c5b1 : decide ((ji3) ≤ (l0_2.length : Int)) = true := decide_eq_true c5
    clear c5
    replace H := Option.bind_eq_some_iff.mp H
    obtain ⟨t321, A60, H⟩ := H
    replace H : (some t321) = some r := H
    have A6 := am_ A60
    clear A60
    obtain rfl := Option.some.inj H
    go_enter Tryd.func70, Tryd.ntmps70
    go_wp2_with (first | ((with_reducible refine gate_dst (N := 1) rfl ?_); refine box_event ?hg (N := 1) ?hd (cs := #[.int .i64 a0_0, .int .u64 a0_1, .slice A0_2 l0_2.length c0_2, .bool true, .int .i64 a0_4]) (t := 54) ?hr ?_; (case hd => rfl); (case hg => rfl); (case hr => first | (go_simp; done) | (go_simp; rfl)); intro gb319 hg w7 hbox hb; have n0_ := am_ (bt_ (by repeat (first | (with_reducible first | exact HB.out | apply ba_ | apply bn_ | apply bd_) | exact HB.out)) hb); have n1_ := am_ (hbox); have n2_ := am_ ((by rw [hg]; exact (bs_ (by repeat (first | (with_reducible first | exact HB.out | apply ba_ | apply bn_ | apply bd_) | exact HB.out))) : w.heap.size ≤ gb319)); have n3_ := am_ ((by rw [hg]; exact (bs_ (by repeat (first | (with_reducible first | exact HB.out | apply ba_ | apply bn_ | apply bd_) | exact HB.out))) : w.heap.size ≤ gb319)); clear HB; have HB := n0_; have BK319 := n1_; have GW319 := n2_; have GE319 := n3_; clear n0_ n1_ n2_ n3_; clear hb hbox hg; have hcz8_0 : w7.cell? ⟨gb319, 0, none⟩ = some (.int .i64 a0_0) := (bc_ BK319.out 0).trans rfl; have hcz8_1 : w7.cell? ⟨gb319, 1, none⟩ = some (.int .u64 a0_1) := (bc_ BK319.out 1).trans rfl; have hcz8_2 : w7.cell? ⟨gb319, 2, none⟩ = some (.slice A0_2 l0_2.length c0_2) := (bc_ BK319.out 2).trans rfl; have hcz8_3 : w7.cell? ⟨gb319, 3, none⟩ = some (.bool true) := (bc_ BK319.out 3).trans rfl; have hcz8_4 : w7.cell? ⟨gb319, 4, none⟩ = some (.int .i64 a0_4) := (bc_ BK319.out 4).trans rfl; have hfz8_0 := bf_ BK319.out 0; have hfz8_1 := bf_ BK319.out 1; have hfz8_2 := bf_ BK319.out 2; have hfz8_3 := bf_ BK319.out 3; have hfz8_4 := bf_ BK319.out 4; obtain ⟨i09, hi09, _, hsz9, _⟩ := info_parts info3; obtain ⟨hcut9, hA9, hC9⟩ := print_take_of (P := Tryd.prog) (Value.int .i64) 0 52 3 .i64 Tryd.underlying52 hi09 hsz9 A0_2 c0_2 l0_2 (ji3) (od_ (by first | (with_reducible assumption) | assumption)) (od_ (by first | (with_reducible assumption) | assumption)) HC0_2.out; have HR320 := am_ (Kd.C_of_reads (h1 := fun _ => rfl) (hA9 _ (Kd.reads_of_C HR0_2.out))); have HC320 := am_ hC9; clear hA9 hC9 hi09 hsz9) | ((with_reducible refine gate_callee (f := 93) rfl ?_); refine goesL_ (some 12) rfl rfl Tryd.func93 (by kernel_rfl) rfl #[.slice A0_2 (l0_2.take ((ji3) : Int).toNat).length c0_2] rfl (by (try simp only [List.map_toArray, List.map_cons, List.map_nil]); first | done | (rw [show (l0_2.take ((ji3) : Int).toNat).length = (ji3).toNat from (by rw [lt_]; have h_ : ((ji3) : Int) ≤ (l0_2.length : Int) := od_ (by first | (with_reducible assumption) | assumption); omega)] <;> rfl) | (simp only [hji3]; rfl) | rfl | (simp only [List.length_drop, lt_]; rfl)) ?_; (with_reducible refine (slices_Clone_int_int.calls _ _ (l0_2.take ((ji3) : Int).toNat) t321 _ ?side1 ?side2 A6.out).mono ?_); (case side1 => repeat (first | exact (Kd.C_below HR320.out HB.out) | (with_reducible refine Kd.C_alloc ?_ _) | (with_reducible refine Kd.C_drewN ?_ _) | (with_reducible refine Kd.C_drew ?_))); (case side2 => exact HC320.out); rintro e w10 ⟨v322, rfl, ho0, hb⟩; refine ⟨_, rfl, ?_⟩; have n0_ := am_ (Kd.R_lower ho0 (bs_ (by repeat (first | (with_reducible first | exact HB.out | apply ba_ | apply bn_ | apply bd_ | refine be_ ?_ GE319.out) | exact HB.out)))); have n1_ := am_ (blk_below (g := gb319) (o := .cells #[.int .i64 a0_0, .int .u64 a0_1, .slice A0_2 l0_2.length c0_2, .bool true, .int .i64 a0_4] 54 (0, 0)) (by (with_reducible repeat (first | refine bw_ ?_ _ | refine bx_ ?_ | refine bl_ ?_ _)); exact BK319.out) hb); have n2_ := am_ (bt_ (by repeat (first | (with_reducible first | exact HB.out | apply ba_ | apply bn_ | apply bd_ | refine be_ ?_ GE319.out) | exact HB.out)) hb); clear BK319; clear HB; have HO323 := n0_; have BK319 := n1_; have HB := n2_; clear n0_ n1_ n2_; (try clear hb); (try clear hb2); (try clear hk); (try clear hi); (try clear ho0)))
    go_ret
    exact ⟨_, by first | rfl | (simp [errW_none, errW_some] <;> rfl) | (simp only [← hji3]; first | rfl | (simp [errW_none, errW_some] <;> rfl)) | (simp [*, errW_none, errW_some] <;> rfl), by (with_reducible repeat (first | apply Kd.R_alloc | apply Kd.R_drewN | apply Kd.R_drew)); exact HO323.out, by repeat (first | (with_reducible first | exact HB.out | apply ba_ | apply bn_ | apply bd_ | refine be_ ?_ GE319.out) | exact HB.out)⟩
   ·rw [if_neg c5] at H
    exact absurd H (by simp)
  ·rw [if_neg c4] at H
   exact absurd H (by simp)
 ·replace c2 := Bool.eq_false_iff.mpr c2
  subst c2
  have H1 : ((slices_Clone_int_int.f l0_2).bind fun t324 => (some t324)) = some r := by rw [if_neg (show ¬ (false = true) by decide)] at H; exact H
  clear H
  have H := H1
  clear H1
  replace H := Option.bind_eq_some_iff.mp H
  obtain ⟨t324, A110, H⟩ := H
  replace H : (some t324) = some r := H
  have A11 := am_ A110
  clear A110
  obtain rfl := Option.some.inj H
  go_enter Tryd.func70, Tryd.ntmps70
  go_wp2_with (first | ((with_reducible refine gate_dst (N := 1) rfl ?_); refine box_event ?hg (N := 1) ?hd (cs := #[.int .i64 a0_0, .int .u64 a0_1, .slice A0_2 l0_2.length c0_2, .bool false, .int .i64 a0_4]) (t := 54) ?hr ?_; (case hd => rfl); (case hg => rfl); (case hr => first | (go_simp; done) | (go_simp; rfl)); intro gb319 hg w12 hbox hb; have n0_ := am_ (bt_ (by repeat (first | (with_reducible first | exact HB.out | apply ba_ | apply bn_ | apply bd_) | exact HB.out)) hb); have n1_ := am_ (hbox); have n2_ := am_ ((by rw [hg]; exact (bs_ (by repeat (first | (with_reducible first | exact HB.out | apply ba_ | apply bn_ | apply bd_) | exact HB.out))) : w.heap.size ≤ gb319)); have n3_ := am_ ((by rw [hg]; exact (bs_ (by repeat (first | (with_reducible first | exact HB.out | apply ba_ | apply bn_ | apply bd_) | exact HB.out))) : w.heap.size ≤ gb319)); clear HB; have HB := n0_; have BK319 := n1_; have GW319 := n2_; have GE319 := n3_; clear n0_ n1_ n2_ n3_; clear hb hbox hg; have hcz13_0 : w12.cell? ⟨gb319, 0, none⟩ = some (.int .i64 a0_0) := (bc_ BK319.out 0).trans rfl; have hcz13_1 : w12.cell? ⟨gb319, 1, none⟩ = some (.int .u64 a0_1) := (bc_ BK319.out 1).trans rfl; have hcz13_2 : w12.cell? ⟨gb319, 2, none⟩ = some (.slice A0_2 l0_2.length c0_2) := (bc_ BK319.out 2).trans rfl; have hcz13_3 : w12.cell? ⟨gb319, 3, none⟩ = some (.bool false) := (bc_ BK319.out 3).trans rfl; have hcz13_4 : w12.cell? ⟨gb319, 4, none⟩ = some (.int .i64 a0_4) := (bc_ BK319.out 4).trans rfl; have hfz13_0 := bf_ BK319.out 0; have hfz13_1 := bf_ BK319.out 1; have hfz13_2 := bf_ BK319.out 2; have hfz13_3 := bf_ BK319.out 3; have hfz13_4 := bf_ BK319.out 4) | ((with_reducible refine gate_callee (f := 93) rfl ?_); refine goesL_ (some 15) rfl rfl Tryd.func93 (by kernel_rfl) rfl #[.slice A0_2 l0_2.length c0_2] rfl (by (try simp only [List.map_toArray, List.map_cons, List.map_nil]); first | done | rfl | (simp only [List.length_drop, lt_]; rfl)) ?_; (with_reducible refine (slices_Clone_int_int.calls _ _ l0_2 t324 _ ?side1 ?side2 A11.out).mono ?_); (case side1 => repeat (first | exact (Kd.C_below HR0_2.out HB.out) | (with_reducible refine Kd.C_alloc ?_ _) | (with_reducible refine Kd.C_drewN ?_ _) | (with_reducible refine Kd.C_drew ?_))); (case side2 => exact HC0_2.out); rintro e w14 ⟨v325, rfl, ho0, hb⟩; refine ⟨_, rfl, ?_⟩; have n0_ := am_ (Kd.R_lower ho0 (bs_ (by repeat (first | (with_reducible first | exact HB.out | apply ba_ | apply bn_ | apply bd_ | refine be_ ?_ GE319.out) | exact HB.out)))); have n1_ := am_ (blk_below (g := gb319) (o := .cells #[.int .i64 a0_0, .int .u64 a0_1, .slice A0_2 l0_2.length c0_2, .bool false, .int .i64 a0_4] 54 (0, 0)) (by (with_reducible repeat (first | refine bw_ ?_ _ | refine bx_ ?_ | refine bl_ ?_ _)); exact BK319.out) hb); have n2_ := am_ (bt_ (by repeat (first | (with_reducible first | exact HB.out | apply ba_ | apply bn_ | apply bd_ | refine be_ ?_ GE319.out) | exact HB.out)) hb); clear BK319; clear HB; have HO326 := n0_; have BK319 := n1_; have HB := n2_; clear n0_ n1_ n2_; (try clear hb); (try clear hb2); (try clear hk); (try clear hi); (try clear ho0)))
  go_ret
  exact ⟨_, by first | rfl | (simp [errW_none, errW_some] <;> rfl) | (simp [*, errW_none, errW_some] <;> rfl), by (with_reducible repeat (first | apply Kd.R_alloc | apply Kd.R_drewN | apply Kd.R_drew)); exact HO326.out, by repeat (first | (with_reducible first | exact HB.out | apply ba_ | apply bn_ | apply bd_ | refine be_ ?_ GE319.out) | exact HB.out)⟩
end Go.Proofs.YtlpkandfmbnlnaaDoor.Q
end
