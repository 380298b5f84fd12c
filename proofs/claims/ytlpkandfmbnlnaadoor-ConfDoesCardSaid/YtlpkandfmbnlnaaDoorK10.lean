/- What the proof of the claim leans on, of these texts: Q15; only what is used. -/
import Derived.Deep.RegionWith
import Derived.Handy
import Derived.Laws.StructEq
import Derived.LoopTactic
import Derived.Test.YtlpkandfmbnlnaaDoorK1
import Derived.Test.YtlpkandfmbnlnaaDoorK2
import Derived.Test.YtlpkandfmbnlnaaDoorK3
import Derived.Test.YtlpkandfmbnlnaaDoorK4
import Derived.Test.YtlpkandfmbnlnaaDoorK5
import Derived.Test.YtlpkandfmbnlnaaDoorK6
import Derived.Test.YtlpkandfmbnlnaaDoorK7
import Derived.Test.YtlpkandfmbnlnaaDoorK8
import Derived.Test.YtlpkandfmbnlnaaDoorK9
namespace Go.Proofs.YtlpkandfmbnlnaaDoor
end Go.Proofs.YtlpkandfmbnlnaaDoor
namespace Go.Proofs.YtlpkandfmbnlnaaDoor.Cmd
end Go.Proofs.YtlpkandfmbnlnaaDoor.Cmd
namespace Go.Proofs.YtlpkandfmbnlnaaDoor.Fix
end Go.Proofs.YtlpkandfmbnlnaaDoor.Fix
namespace Go.Proofs.YtlpkandfmbnlnaaDoor.Laid
end Go.Proofs.YtlpkandfmbnlnaaDoor.Laid
namespace Go.Proofs.YtlpkandfmbnlnaaDoor.Mem
end Go.Proofs.YtlpkandfmbnlnaaDoor.Mem
namespace Go.Proofs.YtlpkandfmbnlnaaDoor.Num
end Go.Proofs.YtlpkandfmbnlnaaDoor.Num
namespace Go.Proofs.YtlpkandfmbnlnaaDoor.Opn
end Go.Proofs.YtlpkandfmbnlnaaDoor.Opn
namespace Go.Proofs.YtlpkandfmbnlnaaDoor.Q
end Go.Proofs.YtlpkandfmbnlnaaDoor.Q
namespace Go.Proofs.YtlpkandfmbnlnaaDoor.R
end Go.Proofs.YtlpkandfmbnlnaaDoor.R
namespace Go.Proofs.YtlpkandfmbnlnaaDoor.Ref
end Go.Proofs.YtlpkandfmbnlnaaDoor.Ref
namespace Go.Proofs.YtlpkandfmbnlnaaDoor.Str
end Go.Proofs.YtlpkandfmbnlnaaDoor.Str
namespace Go.Proofs.YtlpkandfmbnlnaaDoor.Txt
end Go.Proofs.YtlpkandfmbnlnaaDoor.Txt
namespace Go.Proofs.YtlpkandfmbnlnaaDoor.confDoes
end Go.Proofs.YtlpkandfmbnlnaaDoor.confDoes
namespace Go.Proofs.YtlpkandfmbnlnaaDoorW.PrintLast
end Go.Proofs.YtlpkandfmbnlnaaDoorW.PrintLast
namespace Go.Proofs.YtlpkandfmbnlnaaDoorW.PrintMore
end Go.Proofs.YtlpkandfmbnlnaaDoorW.PrintMore
namespace Go.Proofs.YtlpkandfmbnlnaaDoorW.PrintWords
end Go.Proofs.YtlpkandfmbnlnaaDoorW.PrintWords
section
namespace Go.Proofs.YtlpkandfmbnlnaaDoor.Q
end Go.Proofs.YtlpkandfmbnlnaaDoor.Q
namespace Go.Proofs.YtlpkandfmbnlnaaDoor.R
end Go.Proofs.YtlpkandfmbnlnaaDoor.R
namespace Go.Proofs.YtlpkandfmbnlnaaDoor.Q
open Go.RowKit Go.Proofs.YtlpkandfmbnlnaaDoorW.PrintWords Go.Proofs.YtlpkandfmbnlnaaDoorW.PrintLast Go.Proofs.YtlpkandfmbnlnaaDoorW.PrintMore
attribute [local go_sem] max2_int min2_int max_two min_two max_three min_three max_four min_four   -- for this text's walks alone
set_option linter.unusedVariables false
set_option linter.unusedSimpArgs false
open Go.Proofs.YtlpkandfmbnlnaaDoor.Q Go.Proofs.YtlpkandfmbnlnaaDoor.R
mutual
def catenarylaw09_ConfDoes.l0 : Nat → List (S24) → List (S54) → List (S54) → Int → Option (Bool)
 | 0, _, _, _, _ => none
 | k + 1, x1, x5, x6, x7 => if x7 < (x1.length : Int) then (catenarylaw09_ConfDoes.j1 k x1 x5 x6 x7 (decide (x7 < 40))) else (catenarylaw09_ConfDoes.j1 k x1 x5 x6 x7 false)
def catenarylaw09_ConfDoes.j1 : Nat → List (S24) → List (S54) → List (S54) → Int → Bool → Option (Bool)
 | 0, _, _, _, _, _ => none
 | k + 1, x1, x5, x6, x7, x26 => if x26 = true then (if 0 ≤ x7 then (if x7 < (x1.length : Int) then ((conf_Can.f k x5 ((rd_T24 x1 x7).f0) ((rd_T24 x1 x7).f1) ((rd_T24 x1 x7).f2) ((rd_T24 x1 x7).f3)).bind fun t304 => ((catenaryref09_Can.f k x6 ((rd_T24 x1 x7).f0) ((rd_T24 x1 x7).f1) ((rd_T24 x1 x7).f2) ((rd_T24 x1 x7).f3)).bind fun t306 => (if t304 = t306 then ((conf_Do.f k x5 ((rd_T24 x1 x7).f0) ((rd_T24 x1 x7).f1) ((rd_T24 x1 x7).f2) ((rd_T24 x1 x7).f3)).bind fun bt308 => ((catenaryref09_Do.f k x6 ((rd_T24 x1 x7).f0) ((rd_T24 x1 x7).f1) ((rd_T24 x1 x7).f2) ((rd_T24 x1 x7).f3)).bind fun bt313 => (if (bt308.2 != bt313.2) = true then (some false) else ((catenaryref09_SameAll.f k bt308.1 bt313.1).bind fun t317 => (if t317 = true then ((catenaryref09_SameAll.f k x5 x6).bind fun t318 => (if t318 = true then (catenarylaw09_ConfDoes.l0 k x1 bt308.1 bt313.1 (wrap64 (x7 + 1))) else (some false))) else (some false)))))) else (some false)))) else (none)) else (none)) else ((catenarylaw09_awake.f k).bind fun t302 => (some t302))
end
def catenarylaw09_ConfDoes.f (k : Nat) (l0 : List (S54)) (l1 : List (S24)) : Option (Bool) := (catenarylaw09_few.f k l0).bind fun t297 => (if t297 = true then ((conf_Copy.f k l0).bind fun t299 => (catenarylaw09_ConfDoes.l0 k l1 t299 l0 0)) else ((catenarylaw09_awake.f k).bind fun t298 => (some t298)))
def catenarylaw09_ConfDoes.T8 : Bool × List (List Nat × List Nat) := (true, [([], []), ([], []), ([], []), ([1, 2], [1, 2]), ([3], [3]), ([0, 4], [0, 4]), ([], []), ([], []), ([], []), ([7, 8], [7, 8]), ([9], [9]), ([6, 10, 5], [6, 10]), ([5, 11], [5, 11])])
def catenarylaw09_ConfDoes.B8 : List Nat := [0, 0, 0, 6, 14, 31, 0, 0, 0, 384, 896, 2047, 4095]
theorem catenarylaw09_ConfDoes.tab8 : rtab .any (opsOf Tryd.f5 8) = catenarylaw09_ConfDoes.T8 := by kernel_rfl
theorem catenarylaw09_ConfDoes.bits8 : waitsOk catenarylaw09_ConfDoes.T8.2 catenarylaw09_ConfDoes.B8 = true := by kernel_rfl
set_option maxHeartbeats 8000000 in
set_option maxRecDepth 100000 in
theorem catenarylaw09_ConfDoes.calls (k : Nat) (P0_ : Nat → Prop) (A0 : Option Addr) (c0 : Nat) (l0 : List (S54)) (A1 : Option Addr) (c1 : Nat) (l1 : List (S24)) (r : Bool) (w : World) (hs0 : Kd.V k54 54 w w.heap.size (fun k_ => P0_ k_) (.slice A0 l0.length c0) l0) (hr1 : Kd.C k24 w A1 l1.length l1) (hc1 : l1.length ≤ c1) (h : catenarylaw09_ConfDoes.f k l0 l1 = some r) (hE_ : EnvP w := by first | exact HE.out | exact EnvP.drewN HE.out _ | (refine EnvP.below HE.out ?_; repeat (first | exact HB.out | (with_reducible first | apply ba_ | apply bn_ | apply bd_) | (refine be_ ?_ (Aside0.out ?_); rotate_left; assumption)))) :
  Calls Tryd.prog 5 #[.slice A0 l0.length c0, .slice A1 l1.length c1] w fun e w' => e = .returned (.bool r) ∧ Below w.heap.size w w' := by
 have HE := am_ hE_
 clear hE_
 have hu24 := Tryd.underlying24
 have HO0 := am_ (show Kd.V k54 54 w w.heap.size (fun k_ => (P0_ k_ ∨ w.heap.size ≤ k_)) (.slice A0 l0.length c0) l0 from Kd.V_mono hs0 (fun k_ hk => .inl hk))
 have HR1 := am_ hr1
 have HC1 := am_ hc1
 clear hr1 hc1
 have HB := am_ (Below.refl w.heap.size w)
 have H : ((catenarylaw09_few.f k l0).bind fun t297 => (if t297 = true then ((conf_Copy.f k l0).bind fun t299 => (catenarylaw09_ConfDoes.l0 k l1 t299 l0 0)) else ((catenarylaw09_awake.f k).bind fun t298 => (some t298)))) = some r := h
 clear h
 replace H := Option.bind_eq_some_iff.mp H
 obtain ⟨t297, A30, H⟩ := H
 replace H : (if t297 = true then ((conf_Copy.f k l0).bind fun t299 => (catenarylaw09_ConfDoes.l0 k l1 t299 l0 0)) else ((catenarylaw09_awake.f k).bind fun t298 => (some t298))) = some r := H
 have A3 := am_ A30
 clear A30
 by_cases c4 : t297 = true
 ·subst c4
  have H1 : ((conf_Copy.f k l0).bind fun t299 => (catenarylaw09_ConfDoes.l0 k l1 t299 l0 0)) = some r := by rw [if_pos rfl] at H; exact H
  clear H
  have H := H1
  clear H1
  replace H := Option.bind_eq_some_iff.mp H
  obtain ⟨t299, A50, H⟩ := H
  replace H : (catenarylaw09_ConfDoes.l0 k l1 t299 l0 0) = some r := H
  have A5 := am_ A50
  clear A50
  have H' := am_ H
  clear H
  go_enter Tryd.func5, Tryd.ntmps5
  go_wp2_with (first | ((with_reducible refine gate_callee (f := 23) rfl ?_); refine goesL_ (some 13) rfl rfl Tryd.func23 (by kernel_rfl) rfl #[.slice A0 l0.length c0] rfl (by (try simp only [List.map_toArray, List.map_cons, List.map_nil]); first | done | rfl | (simp only [List.length_drop, lt_]; rfl)) ?_; (with_reducible refine (catenarylaw09_few.calls k _ _ l0 true _ ?side1 ?side2 A3.out).mono ?_); (case side1 => repeat (first | exact (Kd.V_reads' HO0.out).2.2 | (with_reducible refine Kd.C_alloc ?_ _) | (with_reducible refine Kd.C_drewN ?_ _) | (with_reducible refine Kd.C_drew ?_))); (case side2 => exact (Kd.V_reads' HO0.out).2.1); rintro e w' ⟨rfl, ⟨nd, rfl⟩⟩; refine ⟨_, rfl, ?_⟩) | ((with_reducible refine gate_callee (f := 25) rfl ?_); refine goesL_ (some 17) rfl rfl Tryd.func25 (by kernel_rfl) rfl #[.slice A0 l0.length c0] rfl (by (try simp only [List.map_toArray, List.map_cons, List.map_nil]); first | done | rfl | (simp only [List.length_drop, lt_]; rfl)) ?_; (with_reducible refine (conf_Copy.calls k _ _ l0 t299 _ ?side1 ?side2 A5.out).mono ?_); (case side1 => repeat (first | exact (Kd.V_reads' HO0.out).2.2 | (with_reducible refine Kd.C_alloc ?_ _) | (with_reducible refine Kd.C_drewN ?_ _) | (with_reducible refine Kd.C_drew ?_))); (case side2 => exact (Kd.V_reads' HO0.out).2.1); rintro e w6 ⟨v300, rfl, ho0, hb⟩; refine ⟨_, rfl, ?_⟩; have n0_ := am_ (Kd.V_elder' (by (with_reducible repeat (first | apply Kd.V_alloc | apply Kd.V_drewN | apply Kd.V_drew)); exact HO0.out) (Kd.S_base ho0) hb); have n1_ := am_ (Kd.S_lower (Kd.S_newM (M := fun k_ => (w.heap.size ≤ k_)) ho0 (bs_ (by repeat (first | (with_reducible first | exact HB.out | apply ba_ | apply bn_ | apply bd_) | exact HB.out))) (fun k_ h_ => h_)) (bs_ (by repeat (first | (with_reducible first | exact HB.out | apply ba_ | apply bn_ | apply bd_) | exact HB.out)))); have n2_ := am_ (bt_ (by repeat (first | (with_reducible first | exact HB.out | apply ba_ | apply bn_ | apply bd_) | exact HB.out)) hb); clear HO0; clear HB; have HO0 := n0_; have HO301 := n1_; have HB := n2_; clear n0_ n1_ n2_; (try clear hb); (try clear hb2); (try clear hk); (try clear hi); (try clear ho0)))
  go_loopg [5, 6, 7] k (fun kq v5 v6 v7 w' => ∃ (x5_1 : List (S54)) (x6_1 : List (S54)) (x7_1 : Int), v7 = .int .i64 x7_1 ∧ Aside0 (catenarylaw09_ConfDoes.l0 kq l1 x5_1 x6_1 x7_1 = some r) ∧ Aside0 (kq ≤ k) ∧ Aside0 (Kd.S k54 54 w' w.heap.size (fun k_ => (w.heap.size ≤ k_)) v5 x5_1) ∧ Aside0 (Kd.V k54 54 w' w.heap.size (fun k_ => (P0_ k_ ∨ w.heap.size ≤ k_) ∧ some k_ ≠ (v5 : Value).ownBlock) v6 x6_1) ∧ Aside0 (Below w.heap.size w w'))
  case atStart => exact ⟨(t299), (l0), (0), (by first | rfl | (simp; done) | (simp [*]; done)), H', ⟨Nat.le_refl _⟩, ⟨by (with_reducible repeat (first | apply Kd.S_alloc | apply Kd.S_drewN | apply Kd.S_drew)); exact Kd.S_mono HO301.out (fun _ hk => hk.1)⟩, ⟨by (with_reducible repeat (first | apply Kd.V_alloc | apply Kd.V_drewN | apply Kd.V_drew)); exact HO0.out⟩, ⟨by repeat (first | (with_reducible first | exact HB.out | apply ba_ | apply bn_ | apply bd_) | exact HB.out)⟩⟩
  case round =>
   clear H'
   try clear c1
   try clear c2
   try clear p2
   try clear c4
   try clear c5
   obtain ⟨x5_1, x6_1, x7_1, rfl, HA, HK1, HO_5, HO_6, HB⟩ := hrel
   cases gk with
   | zero => exact absurd HA.out (by simp [catenarylaw09_ConfDoes.l0])
   | succ k1 =>
    have H := HA.out
    clear HA
    simp only [catenarylaw09_ConfDoes.l0] at H
    have HC7 := am_ H
    clear H
    go_upto_region 6 with (fail)
    go_cut [26] (fun v26 wc => ∃ (kq : Nat) (x26_6 : Bool), v26 = .bool x26_6 ∧ Aside0 (catenarylaw09_ConfDoes.j1 kq l1 x5_1 x6_1 x7_1 x26_6 = some r) ∧ Aside0 (kq ≤ k1) ∧ Aside0 (Kd.S k54 54 wc w.heap.size (fun k_ => (w.heap.size ≤ k_)) u5 x5_1) ∧ Aside0 (Kd.V k54 54 wc w.heap.size (fun k_ => (P0_ k_ ∨ w.heap.size ≤ k_) ∧ some k_ ≠ (u5 : Value).ownBlock) u6 x6_1) ∧ Aside0 (Below w.heap.size w wc))
    case first =>
     have H := HC7.out
     clear HC7
     by_cases c8 : x7_1 < (l1.length : Int)
     ·rw [if_pos c8] at H
      have c8b0 : decide (x7_1 < (l1.length : Int)) = true := decide_eq_true c8
      clear c8
      (first | rw [c8b0] | (simp only [i64_w, i32_w]; rw [c8b0]) | skip)
      have H' := am_ H
      clear H
      go_wp2
      go_meet
      case rel => exact ⟨_, (decide (x7_1 < 40)), (by first | rfl | (simp; done) | (simp [*]; done)), H', ⟨by have := HK1.out; first | omega | exact Nat.le_refl _⟩, ⟨by (with_reducible repeat (first | apply Kd.S_alloc | apply Kd.S_drewN | apply Kd.S_drew)); exact HO_5.out⟩, ⟨by (with_reducible repeat (first | apply Kd.V_alloc | apply Kd.V_drewN | apply Kd.V_drew)); exact HO_6.out⟩, ⟨by repeat (first | (with_reducible first | exact HB.out | apply ba_ | apply bn_ | apply bd_) | exact HB.out)⟩⟩
     ·rw [if_neg c8] at H
      have c8b0 : decide (x7_1 < (l1.length : Int)) = false := decide_eq_false c8
      clear c8
      (first | rw [c8b0] | (simp only [i64_w, i32_w]; rw [c8b0]) | skip)
      have H' := am_ H
      clear H
      go_wp2
      go_meet
      case rel => exact ⟨_, (false), (by first | rfl | (simp; done) | (simp [*]; done)), H', ⟨by have := HK1.out; first | omega | exact Nat.le_refl _⟩, ⟨by (with_reducible repeat (first | apply Kd.S_alloc | apply Kd.S_drewN | apply Kd.S_drew)); exact HO_5.out⟩, ⟨by (with_reducible repeat (first | apply Kd.V_alloc | apply Kd.V_drewN | apply Kd.V_drew)); exact HO_6.out⟩, ⟨by repeat (first | (with_reducible first | exact HB.out | apply ba_ | apply bn_ | apply bd_) | exact HB.out)⟩⟩
    case rest =>
     clear HC7
     try clear c1
     try clear c2
     try clear p2
     try clear c4
     try clear c5
     try clear c8
     try clear c8b0
     try clear p2
     obtain ⟨kq, x26_6, rfl, HA, HJ6, HO_5, HO_6, HB⟩ := hcut
     cases kq with
     | zero => exact absurd HA.out (by simp [catenarylaw09_ConfDoes.j1])
     | succ kj6 =>
      have H := HA.out
      clear HA
      simp only [catenarylaw09_ConfDoes.j1] at H
      by_cases c9 : x26_6 = true
      ·subst c9
       have H1 : (if 0 ≤ x7_1 then (if x7_1 < (l1.length : Int) then ((conf_Can.f kj6 x5_1 ((rd_T24 l1 x7_1).f0) ((rd_T24 l1 x7_1).f1) ((rd_T24 l1 x7_1).f2) ((rd_T24 l1 x7_1).f3)).bind fun t304 => ((catenaryref09_Can.f kj6 x6_1 ((rd_T24 l1 x7_1).f0) ((rd_T24 l1 x7_1).f1) ((rd_T24 l1 x7_1).f2) ((rd_T24 l1 x7_1).f3)).bind fun t306 => (if t304 = t306 then ((conf_Do.f kj6 x5_1 ((rd_T24 l1 x7_1).f0) ((rd_T24 l1 x7_1).f1) ((rd_T24 l1 x7_1).f2) ((rd_T24 l1 x7_1).f3)).bind fun bt308 => ((catenaryref09_Do.f kj6 x6_1 ((rd_T24 l1 x7_1).f0) ((rd_T24 l1 x7_1).f1) ((rd_T24 l1 x7_1).f2) ((rd_T24 l1 x7_1).f3)).bind fun bt313 => (if (bt308.2 != bt313.2) = true then (some false) else ((catenaryref09_SameAll.f kj6 bt308.1 bt313.1).bind fun t317 => (if t317 = true then ((catenaryref09_SameAll.f kj6 x5_1 x6_1).bind fun t318 => (if t318 = true then (catenarylaw09_ConfDoes.l0 kj6 l1 bt308.1 bt313.1 (wrap64 (x7_1 + 1))) else (some false))) else (some false)))))) else (some false)))) else (none)) else (none)) = some r := by rw [if_pos rfl] at H; exact H
       clear H
       have H := H1
       clear H1
       by_cases c10 : 0 ≤ x7_1
       ·rw [if_pos c10] at H
        have c10b0 : decide (0 ≤ x7_1) = true := decide_eq_true c10
        clear c10
        by_cases c11 : x7_1 < (l1.length : Int)
        ·rw [if_pos c11] at H
         have c11b0 : decide (x7_1 < (l1.length : Int)) = true := decide_eq_true c11
         clear c11
         replace H := Option.bind_eq_some_iff.mp H
         obtain ⟨t304, A120, H⟩ := H
         replace H : ((catenaryref09_Can.f kj6 x6_1 ((rd_T24 l1 x7_1).f0) ((rd_T24 l1 x7_1).f1) ((rd_T24 l1 x7_1).f2) ((rd_T24 l1 x7_1).f3)).bind fun t306 => (if t304 = t306 then ((conf_Do.f kj6 x5_1 ((rd_T24 l1 x7_1).f0) ((rd_T24 l1 x7_1).f1) ((rd_T24 l1 x7_1).f2) ((rd_T24 l1 x7_1).f3)).bind fun bt308 => ((catenaryref09_Do.f kj6 x6_1 ((rd_T24 l1 x7_1).f0) ((rd_T24 l1 x7_1).f1) ((rd_T24 l1 x7_1).f2) ((rd_T24 l1 x7_1).f3)).bind fun bt313 => (if (bt308.2 != bt313.2) = true then (some false) else ((catenaryref09_SameAll.f kj6 bt308.1 bt313.1).bind fun t317 => (if t317 = true then ((catenaryref09_SameAll.f kj6 x5_1 x6_1).bind fun t318 => (if t318 = true then (catenarylaw09_ConfDoes.l0 kj6 l1 bt308.1 bt313.1 (wrap64 (x7_1 + 1))) else (some false))) else (some false)))))) else (some false))) = some r := H
         have A12 := am_ A120
         clear A120
         replace H := Option.bind_eq_some_iff.mp H
         obtain ⟨t306, A130, H⟩ := H
         replace H : (if t304 = t306 then ((conf_Do.f kj6 x5_1 ((rd_T24 l1 x7_1).f0) ((rd_T24 l1 x7_1).f1) ((rd_T24 l1 x7_1).f2) ((rd_T24 l1 x7_1).f3)).bind fun bt308 => ((catenaryref09_Do.f kj6 x6_1 ((rd_T24 l1 x7_1).f0) ((rd_T24 l1 x7_1).f1) ((rd_T24 l1 x7_1).f2) ((rd_T24 l1 x7_1).f3)).bind fun bt313 => (if (bt308.2 != bt313.2) = true then (some false) else ((catenaryref09_SameAll.f kj6 bt308.1 bt313.1).bind fun t317 => (if t317 = true then ((catenaryref09_SameAll.f kj6 x5_1 x6_1).bind fun t318 => (if t318 = true then (catenarylaw09_ConfDoes.l0 kj6 l1 bt308.1 bt313.1 (wrap64 (x7_1 + 1))) else (some false))) else (some false)))))) else (some false)) = some r := H
         have A13 := am_ A130
         clear A130
         by_cases c14 : t304 = t306
         ·rw [if_pos c14] at H
          have c14b0 : (t304 == t306) = true := beq_iff_eq.mpr c14
          have c14b1 : (t304 != t306) = false := bne_eq_false_iff_eq.mpr c14
          clear c14
          replace H := Option.bind_eq_some_iff.mp H
          obtain ⟨⟨t308, t311⟩, A150, H⟩ := H
          replace H : ((catenaryref09_Do.f kj6 x6_1 ((rd_T24 l1 x7_1).f0) ((rd_T24 l1 x7_1).f1) ((rd_T24 l1 x7_1).f2) ((rd_T24 l1 x7_1).f3)).bind fun bt313 => (if (t311 != bt313.2) = true then (some false) else ((catenaryref09_SameAll.f kj6 t308 bt313.1).bind fun t317 => (if t317 = true then ((catenaryref09_SameAll.f kj6 x5_1 x6_1).bind fun t318 => (if t318 = true then (catenarylaw09_ConfDoes.l0 kj6 l1 t308 bt313.1 (wrap64 (x7_1 + 1))) else (some false))) else (some false))))) = some r := H
          have A15 := am_ A150
          clear A150
          replace H := Option.bind_eq_some_iff.mp H
          obtain ⟨⟨t313, t316⟩, A160, H⟩ := H
          replace H : (if (t311 != t316) = true then (some false) else ((catenaryref09_SameAll.f kj6 t308 t313).bind fun t317 => (if t317 = true then ((catenaryref09_SameAll.f kj6 x5_1 x6_1).bind fun t318 => (if t318 = true then (catenarylaw09_ConfDoes.l0 kj6 l1 t308 t313 (wrap64 (x7_1 + 1))) else (some false))) else (some false)))) = some r := H
          have A16 := am_ A160
          clear A160
          by_cases c17 : (t311 != t316) = true
          ·rw [if_pos c17] at H
           have c17b0 : (t311 != t316) = true := c17
           (try (have c17b1 : decide (t311 = t316) = false := by simpa using c17))
           (try (have c17b2 : (t311 == t316) = false := by simpa using c17))
           (try (have c17b3 : ¬ (t311 = t316) := by simpa using c17))
           clear c17
           obtain rfl := Option.some.inj H
           try go_wp2
           have n0_ := am_ (Kd.S_drew HO_5.out)
           have n1_ := am_ (Kd.V_drew HO_6.out)
           have n2_ := am_ (bd_ HB.out)
           clear HO_5
           clear HO_6
           clear HB
           have HO_5 := n0_
           have HO_6 := n1_
           have HB := n2_
           clear n0_ n1_ n2_
           have p303 : 0 ≤ (x7_1 : Int) := od_ (by first | (with_reducible assumption) | assumption)
           have q303 : x7_1 < (l1.length : Int) := od_ (by first | (with_reducible assumption) | assumption)
           obtain ⟨ad303, e303, hx303_0, hx303_1, hx303_2, hx303_3⟩ := at_T24 HR1.out x7_1 p303 q303
           have hw303_3 := hx303_3
           have hw303_2 := hx303_2
           have hw303_1 := hx303_1
           have hw303_0 := hx303_0
           cases e303
           replace hx303_0 := (HB.out.cell (cl_ w _ hx303_0)).trans hx303_0
           replace hx303_1 := (HB.out.cell (cl_ w _ hx303_1)).trans hx303_1
           replace hx303_2 := (HB.out.cell (cl_ w _ hx303_2)).trans hx303_2
           replace hx303_3 := (HB.out.cell (cl_ w _ hx303_3)).trans hx303_3
           replace p303 := eq_true p303
           replace q303 := eq_true q303
           have p305 : 0 ≤ (x7_1 : Int) := od_ (by first | (with_reducible assumption) | assumption)
           have q305 : x7_1 < (l1.length : Int) := od_ (by first | (with_reducible assumption) | assumption)
           obtain ⟨ad305, e305, hx305_0, hx305_1, hx305_2, hx305_3⟩ := at_T24 HR1.out x7_1 p305 q305
           have hw305_3 := hx305_3
           have hw305_2 := hx305_2
           have hw305_1 := hx305_1
           have hw305_0 := hx305_0
           obtain rfl : ad303 = ad305 := (by injection e305)
           replace hx305_0 := (HB.out.cell (cl_ w _ hx305_0)).trans hx305_0
           replace hx305_1 := (HB.out.cell (cl_ w _ hx305_1)).trans hx305_1
           replace hx305_2 := (HB.out.cell (cl_ w _ hx305_2)).trans hx305_2
           replace hx305_3 := (HB.out.cell (cl_ w _ hx305_3)).trans hx305_3
           replace p305 := eq_true p305
           replace q305 := eq_true q305
           obtain ⟨Ao19, co19, eo19⟩ := Kd.S_slice HO_5.out
           (first | subst eo19 | (injection eo19 with f1_ f2_ f3_; have f4_ := f1_.symm; have f5_ := f3_.symm; clear f1_ f2_ f3_; subst f4_; subst f5_))
           refine start_ (n := 13) (S := fun w' => w'.cell? (ad303.add ((x7_1).toNat * 4)) = some (.int .i64 ((rd_T24 l1 x7_1).f0)) ∧ w'.cell? ⟨(ad303.add ((x7_1).toNat * 4)).block, (ad303.add ((x7_1).toNat * 4)).off + 1, none⟩ = some (.int .i64 ((rd_T24 l1 x7_1).f1)) ∧ w'.cell? ⟨(ad303.add ((x7_1).toNat * 4)).block, (ad303.add ((x7_1).toNat * 4)).off + 2, none⟩ = some (.int .u64 ((rd_T24 l1 x7_1).f2)) ∧ w'.cell? ⟨(ad303.add ((x7_1).toNat * 4)).block, (ad303.add ((x7_1).toNat * 4)).off + 3, none⟩ = some (.int .i64 ((rd_T24 l1 x7_1).f3)) ∧ w'.cell? (ad303.add ((x7_1).toNat * 4)) = some (.int .i64 ((rd_T24 l1 x7_1).f0)) ∧ w'.cell? ⟨(ad303.add ((x7_1).toNat * 4)).block, (ad303.add ((x7_1).toNat * 4)).off + 1, none⟩ = some (.int .i64 ((rd_T24 l1 x7_1).f1)) ∧ w'.cell? ⟨(ad303.add ((x7_1).toNat * 4)).block, (ad303.add ((x7_1).toNat * 4)).off + 2, none⟩ = some (.int .u64 ((rd_T24 l1 x7_1).f2)) ∧ w'.cell? ⟨(ad303.add ((x7_1).toNat * 4)).block, (ad303.add ((x7_1).toNat * 4)).off + 3, none⟩ = some (.int .i64 ((rd_T24 l1 x7_1).f3))) (ds := []) #[false, false, false, false, false, false, false, false, false, false, false, false, false] (by kernel_rfl) rfl rfl ⟨((HB.out.cell (cl_ w _ hw303_0)).trans hw303_0), ((HB.out.cell (cl_ w _ hw303_1)).trans hw303_1), ((HB.out.cell (cl_ w _ hw303_2)).trans hw303_2), ((HB.out.cell (cl_ w _ hw303_3)).trans hw303_3), ((HB.out.cell (cl_ w _ hw305_0)).trans hw305_0), ((HB.out.cell (cl_ w _ hw305_1)).trans hw305_1), ((HB.out.cell (cl_ w _ hw305_2)).trans hw305_2), ((HB.out.cell (cl_ w _ hw305_3)).trans hw305_3)⟩ (fun hHeld => ?_); refine with_tabW catenarylaw09_ConfDoes.tab8 catenarylaw09_ConfDoes.bits8 (fun HT_ HW_ => ?_)
           generalize wc.drew = w18 at HO_5 HO_6 HB hx303_0 hx303_1 hx303_2 hx303_3 hx305_0 hx305_1 hx305_2 hx305_3 hHeld ⊢
           refine pure_ (i := 0) (N := some 29) (v := ?_) (a' := ?_) #[true, false, false, false, false, false, false, false, false, false, false, false, false] rfl rfl (any_of HT_.out (by kernel_rfl)) (fun _ _ _ h => h) (Or.inl ⟨by rfl, ?_⟩) ?_ ?_
           rotate_left
           ·intro w'
            go_simp
            with_reducible rfl
           rotate_left
           ·simp only [Act.put, sa_, sz_, ss_, i64_w, i32_w]
            rfl
           refine pure_ (i := 1) (N := some 30) (v := ?_) (a' := ?_) #[true, true, false, false, false, false, false, false, false, false, false, false, false] rfl rfl (any_of HT_.out (by kernel_rfl)) (fun _ _ _ h => h) (Or.inl ⟨by rfl, ?_⟩) ?_ ?_
           rotate_left
           ·intro w'
            go_simp
            with_reducible rfl
           rotate_left
           ·simp only [Act.put, sa_, sz_, ss_, i64_w, i32_w]
            rfl
           refine pure_ (i := 2) (N := some 31) (v := ?_) (a' := ?_) #[true, true, true, false, false, false, false, false, false, false, false, false, false] rfl rfl (any_of HT_.out (by kernel_rfl)) (fun _ _ _ h => h) (Or.inl ⟨by rfl, ?_⟩) ?_ ?_
           rotate_left
           ·intro w'
            go_simp
            with_reducible rfl
           rotate_left
           ·simp only [Act.put, sa_, sz_, ss_, i64_w, i32_w]
            rfl
           refine pure_ (i := 3) (N := some 32) (v := ?_) (a' := ?_) #[true, true, true, true, false, false, false, false, false, false, false, false, false] rfl rfl (any_of HT_.out (by kernel_rfl)) (fun _ _ _ h => h) (Or.inl ⟨by rfl, ?_⟩) ?_ ?_
           rotate_left
           ·intro w'
            go_simp
            with_reducible rfl
           rotate_left
           ·simp only [Act.put, sa_, sz_, ss_, i64_w, i32_w]
            rfl
           refine pure_ (i := 6) (N := some 35) (v := ?_) (a' := ?_) #[true, true, true, true, false, false, true, false, false, false, false, false, false] rfl rfl (any_of HT_.out (by kernel_rfl)) (fun _ _ _ h => h) (Or.inl ⟨by rfl, ?_⟩) ?_ ?_
           rotate_left
           ·intro w'
            go_simp
            with_reducible rfl
           rotate_left
           ·simp only [Act.put, sa_, sz_, ss_, i64_w, i32_w]
            rfl
           refine pure_ (i := 7) (N := some 36) (v := ?_) (a' := ?_) #[true, true, true, true, false, false, true, true, false, false, false, false, false] rfl rfl (any_of HT_.out (by kernel_rfl)) (fun _ _ _ h => h) (Or.inl ⟨by rfl, ?_⟩) ?_ ?_
           rotate_left
           ·intro w'
            go_simp
            with_reducible rfl
           rotate_left
           ·simp only [Act.put, sa_, sz_, ss_, i64_w, i32_w]
            rfl
           refine pure_ (i := 8) (N := some 37) (v := ?_) (a' := ?_) #[true, true, true, true, false, false, true, true, true, false, false, false, false] rfl rfl (any_of HT_.out (by kernel_rfl)) (fun _ _ _ h => h) (Or.inl ⟨by rfl, ?_⟩) ?_ ?_
           rotate_left
           ·intro w'
            go_simp
            with_reducible rfl
           rotate_left
           ·simp only [Act.put, sa_, sz_, ss_, i64_w, i32_w]
            rfl
           refine pure_ (i := 9) (N := some 38) (v := ?_) (a' := ?_) #[true, true, true, true, false, false, true, true, true, true, false, false, false] rfl rfl (any_of HT_.out (by kernel_rfl)) (fun _ _ _ h => h) (Or.inl ⟨by rfl, ?_⟩) ?_ ?_
           rotate_left
           ·intro w'
            go_simp
            with_reducible rfl
           rotate_left
           ·simp only [Act.put, sa_, sz_, ss_, i64_w, i32_w]
            rfl
           refine take_ (i := 4) (N := some 33) (v := ?_) (a' := ?_) #[true, true, true, true, true, false, true, true, true, true, false, false, false] rfl rfl (take_ofW HT_.out HW_.out (by kernel_rfl)) (fun _ _ _ h => h) (Or.inl ⟨by rfl, ?_⟩) hHeld ?_ ?_
           rotate_left
           ·rintro w' ⟨s0, s1, s2, s3, s4, s5, s6, s7⟩
            go_simp
            with_reducible rfl
           rotate_left
           ·simp only [Act.put, sa_, sz_, ss_, i64_w, i32_w]
            rfl
           refine take_ (i := 10) (N := some 39) (v := ?_) (a' := ?_) #[true, true, true, true, true, false, true, true, true, true, true, false, false] rfl rfl (take_ofW HT_.out HW_.out (by kernel_rfl)) (fun _ _ _ h => h) (Or.inl ⟨by rfl, ?_⟩) hHeld ?_ ?_
           rotate_left
           ·rintro w' ⟨s0, s1, s2, s3, s4, s5, s6, s7⟩
            go_simp
            with_reducible rfl
           rotate_left
           ·simp only [Act.put, sa_, sz_, ss_, i64_w, i32_w]
            rfl
           refine one_ (i := 5) (N := some 34) #[true, true, true, true, true, true, true, true, true, true, true, false, false] rfl rfl (one_of HT_.out (by kernel_rfl)) (by decide) (fun K hK => ?_)
           refine goes_ Tryd.func26 (by kernel_rfl) rfl #[.slice Ao19 x5_1.length co19, .agg #[.int .i64 ((rd_T24 l1 x7_1).f0), .int .i64 ((rd_T24 l1 x7_1).f1), .int .u64 ((rd_T24 l1 x7_1).f2), .int .i64 ((rd_T24 l1 x7_1).f3)]] (by rfl) rfl rfl (by (try simp only [List.map_toArray, List.map_cons, List.map_nil]); first | done | rfl | (simp only [List.length_drop, lt_]; rfl)) ?_
           with_reducible refine (conf_Can.calls kj6 _ _ x5_1 ((rd_T24 l1 x7_1).f0) ((rd_T24 l1 x7_1).f1) ((rd_T24 l1 x7_1).f2) ((rd_T24 l1 x7_1).f3) t304 _ ?side1 ?side2 A12.out).mono ?_
           (case side1 => repeat (first | exact (Kd.S_reads' HO_5.out).2.2 | (with_reducible refine Kd.C_alloc ?_ _) | (with_reducible refine Kd.C_drewN ?_ _) | (with_reducible refine Kd.C_drew ?_)))
           (case side2 => exact (Kd.S_reads' HO_5.out).2.1)
           rintro e w20 ⟨rfl, hb⟩
           refine ⟨_, rfl, ?_⟩
           have n0_ := am_ (Kd.S_below (by (with_reducible repeat (first | apply Kd.S_alloc | apply Kd.S_drewN | apply Kd.S_drew)); exact HO_5.out) hb)
           have n1_ := am_ (Kd.V_below (by (with_reducible repeat (first | apply Kd.V_alloc | apply Kd.V_drewN | apply Kd.V_drew)); exact HO_6.out) hb)
           have n2_ := am_ (bt_ (by repeat (first | (with_reducible first | exact HB.out | apply ba_ | apply bn_ | apply bd_) | exact HB.out)) hb)
           clear HO_5
           clear HO_6
           clear HB
           have HO_5 := n0_
           have HO_6 := n1_
           have HB := n2_
           clear n0_ n1_ n2_
           (try clear hb)
           (try clear hb2)
           (try clear hk)
           (try clear hi)
           obtain ⟨Ao21, co21, eo21⟩ := Kd.V_slice HO_6.out
           (first | subst eo21 | (injection eo21 with f1_ f2_ f3_; have f4_ := f1_.symm; have f5_ := f3_.symm; clear f1_ f2_ f3_; subst f4_; subst f5_))
           refine hK.out _ _ ⟨((HB.out.cell (cl_ w _ hw303_0)).trans hw303_0), ((HB.out.cell (cl_ w _ hw303_1)).trans hw303_1), ((HB.out.cell (cl_ w _ hw303_2)).trans hw303_2), ((HB.out.cell (cl_ w _ hw303_3)).trans hw303_3), ((HB.out.cell (cl_ w _ hw305_0)).trans hw305_0), ((HB.out.cell (cl_ w _ hw305_1)).trans hw305_1), ((HB.out.cell (cl_ w _ hw305_2)).trans hw305_2), ((HB.out.cell (cl_ w _ hw305_3)).trans hw305_3)⟩ (fun hHeld => ?_)
           clear hK K
           refine norm_ (a' := ?_) ?_ ?_
           rotate_left
           ·show Act.put _ (some 34) _ = _
            simp only [Act.put, sa_, sz_, ss_, i64_w, i32_w]
            rfl
           refine one_ (i := 11) (N := some 40) #[true, true, true, true, true, true, true, true, true, true, true, true, false] rfl rfl (one_of HT_.out (by kernel_rfl)) (by decide) (fun K hK => ?_)
           refine goes_ Tryd.func27 (by kernel_rfl) rfl #[.slice Ao21 x6_1.length co21, .agg #[.int .i64 ((rd_T24 l1 x7_1).f0), .int .i64 ((rd_T24 l1 x7_1).f1), .int .u64 ((rd_T24 l1 x7_1).f2), .int .i64 ((rd_T24 l1 x7_1).f3)]] (by rfl) rfl rfl (by (try simp only [List.map_toArray, List.map_cons, List.map_nil]); first | done | rfl | (simp only [List.length_drop, lt_]; rfl)) ?_
           with_reducible refine (catenaryref09_Can.calls kj6 _ _ x6_1 ((rd_T24 l1 x7_1).f0) ((rd_T24 l1 x7_1).f1) ((rd_T24 l1 x7_1).f2) ((rd_T24 l1 x7_1).f3) t306 _ ?side1 ?side2 A13.out).mono ?_
           (case side1 => repeat (first | exact (Kd.V_reads' HO_6.out).2.2 | (with_reducible refine Kd.C_alloc ?_ _) | (with_reducible refine Kd.C_drewN ?_ _) | (with_reducible refine Kd.C_drew ?_)))
           (case side2 => exact (Kd.V_reads' HO_6.out).2.1)
           rintro e w22 ⟨rfl, hb⟩
           refine ⟨_, rfl, ?_⟩
           have n0_ := am_ (Kd.S_below (by (with_reducible repeat (first | apply Kd.S_alloc | apply Kd.S_drewN | apply Kd.S_drew)); exact HO_5.out) hb)
           have n1_ := am_ (Kd.V_below (by (with_reducible repeat (first | apply Kd.V_alloc | apply Kd.V_drewN | apply Kd.V_drew)); exact HO_6.out) hb)
           have n2_ := am_ (bt_ (by repeat (first | (with_reducible first | exact HB.out | apply ba_ | apply bn_ | apply bd_) | exact HB.out)) hb)
           clear HO_5
           clear HO_6
           clear HB
           have HO_5 := n0_
           have HO_6 := n1_
           have HB := n2_
           clear n0_ n1_ n2_
           (try clear hb)
           (try clear hb2)
           (try clear hk)
           (try clear hi)
           refine hK.out _ _ ⟨((HB.out.cell (cl_ w _ hw303_0)).trans hw303_0), ((HB.out.cell (cl_ w _ hw303_1)).trans hw303_1), ((HB.out.cell (cl_ w _ hw303_2)).trans hw303_2), ((HB.out.cell (cl_ w _ hw303_3)).trans hw303_3), ((HB.out.cell (cl_ w _ hw305_0)).trans hw305_0), ((HB.out.cell (cl_ w _ hw305_1)).trans hw305_1), ((HB.out.cell (cl_ w _ hw305_2)).trans hw305_2), ((HB.out.cell (cl_ w _ hw305_3)).trans hw305_3)⟩ (fun hHeld => ?_)
           clear hK K
           refine norm_ (a' := ?_) ?_ ?_
           rotate_left
           ·show Act.put _ (some 40) _ = _
            simp only [Act.put, sa_, sz_, ss_, i64_w, i32_w]
            rfl
           refine pure_ (i := 12) (N := some 41) (v := ?_) (a' := ?_) #[true, true, true, true, true, true, true, true, true, true, true, true, true] rfl rfl (any_of HT_.out (by kernel_rfl)) (fun _ _ _ h => h) (Or.inl ⟨by rfl, ?_⟩) ?_ ?_
           rotate_left
           ·intro w'
            go_simp
            with_reducible rfl
           rotate_left
           ·simp only [Act.put, sa_, sz_, ss_, i64_w, i32_w]
            rfl
           refine done_ (done_of HT_.out (by kernel_rfl)) ?_
           have p307 : 0 ≤ (x7_1 : Int) := od_ (by first | (with_reducible assumption) | assumption)
           have q307 : x7_1 < (l1.length : Int) := od_ (by first | (with_reducible assumption) | assumption)
           obtain ⟨ad307, e307, hx307_0, hx307_1, hx307_2, hx307_3⟩ := at_T24 HR1.out x7_1 p307 q307
           obtain rfl : ad303 = ad307 := (by injection e307)
           replace hx307_0 := (HB.out.cell (cl_ w _ hx307_0)).trans hx307_0
           replace hx307_1 := (HB.out.cell (cl_ w _ hx307_1)).trans hx307_1
           replace hx307_2 := (HB.out.cell (cl_ w _ hx307_2)).trans hx307_2
           replace hx307_3 := (HB.out.cell (cl_ w _ hx307_3)).trans hx307_3
           replace p307 := eq_true p307
           replace q307 := eq_true q307
           try go_wp2_with (first | ((with_reducible refine gate_callee (f := 28) rfl ?_); refine goesL_ (some 48) rfl rfl Tryd.func28 (by kernel_rfl) rfl #[.slice Ao19 x5_1.length co19, .agg #[.int .i64 ((rd_T24 l1 x7_1).f0), .int .i64 ((rd_T24 l1 x7_1).f1), .int .u64 ((rd_T24 l1 x7_1).f2), .int .i64 ((rd_T24 l1 x7_1).f3)]] rfl (by (try simp only [List.map_toArray, List.map_cons, List.map_nil]); first | done | rfl | (simp only [List.length_drop, lt_]; rfl)) ?_; (with_reducible refine (conf_Do.calls kj6 _ _ x5_1 ((rd_T24 l1 x7_1).f0) ((rd_T24 l1 x7_1).f1) ((rd_T24 l1 x7_1).f2) ((rd_T24 l1 x7_1).f3) t308 t311 _ ?side1 ?side2 A15.out).mono ?_); (case side1 => repeat (first | exact (Kd.S_reads' HO_5.out).2.2 | (with_reducible refine Kd.C_alloc ?_ _) | (with_reducible refine Kd.C_drewN ?_ _) | (with_reducible refine Kd.C_drew ?_))); (case side2 => exact (Kd.S_reads' HO_5.out).2.1); rintro e w23 ⟨v309, rfl, ho0, hb⟩; refine ⟨_, rfl, ?_⟩; have n0_ := am_ (Kd.S_elder' (by (with_reducible repeat (first | apply Kd.S_alloc | apply Kd.S_drewN | apply Kd.S_drew)); exact HO_5.out) (Kd.S_base ho0) hb); have n1_ := am_ (Kd.V_elder' (by (with_reducible repeat (first | apply Kd.V_alloc | apply Kd.V_drewN | apply Kd.V_drew)); exact HO_6.out) (Kd.S_base ho0) hb); have n2_ := am_ (Kd.S_lower (Kd.S_new' (Kd.S_newM (M := fun k_ => (w.heap.size ≤ k_)) ho0 (bs_ (by repeat (first | (with_reducible first | exact HB.out | apply ba_ | apply bn_ | apply bd_) | exact HB.out))) (fun k_ h_ => h_)) (Kd.S_lt (by (with_reducible repeat (first | apply Kd.S_alloc | apply Kd.S_drewN | apply Kd.S_drew)); exact HO_5.out))) (bs_ (by repeat (first | (with_reducible first | exact HB.out | apply ba_ | apply bn_ | apply bd_) | exact HB.out)))); have n3_ := am_ (bt_ (by repeat (first | (with_reducible first | exact HB.out | apply ba_ | apply bn_ | apply bd_) | exact HB.out)) hb); clear HO_5; clear HO_6; clear HB; have HO_5 := n0_; have HO_6 := n1_; have HO310 := n2_; have HB := n3_; clear n0_ n1_ n2_ n3_; (try clear hb); (try clear hb2); (try clear hk); (try clear hi); (try clear ho0); have p312 : 0 ≤ (x7_1 : Int) := od_ (by first | (with_reducible assumption) | assumption); have q312 : x7_1 < (l1.length : Int) := od_ (by first | (with_reducible assumption) | assumption); obtain ⟨ad312, e312, hx312_0, hx312_1, hx312_2, hx312_3⟩ := at_T24 HR1.out x7_1 p312 q312; obtain rfl : ad303 = ad312 := (by injection e312); replace hx312_0 := (HB.out.cell (cl_ w _ hx312_0)).trans hx312_0; replace hx312_1 := (HB.out.cell (cl_ w _ hx312_1)).trans hx312_1; replace hx312_2 := (HB.out.cell (cl_ w _ hx312_2)).trans hx312_2; replace hx312_3 := (HB.out.cell (cl_ w _ hx312_3)).trans hx312_3; replace p312 := eq_true p312; replace q312 := eq_true q312) | ((with_reducible refine gate_callee (f := 29) rfl ?_); refine goesL_ (some 57) rfl rfl Tryd.func29 (by kernel_rfl) rfl #[.slice Ao21 x6_1.length co21, .agg #[.int .i64 ((rd_T24 l1 x7_1).f0), .int .i64 ((rd_T24 l1 x7_1).f1), .int .u64 ((rd_T24 l1 x7_1).f2), .int .i64 ((rd_T24 l1 x7_1).f3)]] rfl (by (try simp only [List.map_toArray, List.map_cons, List.map_nil]); first | done | rfl | (simp only [List.length_drop, lt_]; rfl)) ?_; (with_reducible refine (catenaryref09_Do.calls kj6 (fun k_ => (((P0_ k_ ∨ w.heap.size ≤ k_) ∧ some k_ ≠ (.slice Ao19 x5_1.length co19 : Value).ownBlock) ∧ some k_ ≠ (v309 : Value).ownBlock)) _ _ x6_1 ((rd_T24 l1 x7_1).f0) ((rd_T24 l1 x7_1).f1) ((rd_T24 l1 x7_1).f2) ((rd_T24 l1 x7_1).f3) t313 t316 _ ?side1 A16.out).mono ?_); (case side1 => exact HO_6.out); rintro e w24 ⟨v314, rfl, ho0, hb⟩; refine ⟨_, rfl, ?_⟩; have n0_ := am_ (Kd.S_below (by (with_reducible repeat (first | apply Kd.S_alloc | apply Kd.S_drewN | apply Kd.S_drew)); exact HO_5.out) hb); have n1_ := am_ (Kd.V_below (by (with_reducible repeat (first | apply Kd.V_alloc | apply Kd.V_drewN | apply Kd.V_drew)); exact HO_6.out) hb); have n2_ := am_ (Kd.S_below (by (with_reducible repeat (first | apply Kd.S_alloc | apply Kd.S_drewN | apply Kd.S_drew)); exact HO310.out) hb); have n3_ := am_ (Kd.V_lower (Kd.V_mono (ok' := fun k_ => (P0_ k_ ∨ w.heap.size ≤ k_) ∧ some k_ ≠ (.slice Ao19 x5_1.length co19 : Value).ownBlock ∧ some k_ ≠ (v309 : Value).ownBlock) ho0 (fun k_ hk_ => ⟨Or.elim hk_ (fun hs_ => hs_.1.1) (fun hn_ => (.inr (Nat.le_trans (bs_ (by repeat (first | (with_reducible first | exact HB.out | apply ba_ | apply bn_ | apply bd_) | exact HB.out))) hn_))), Or.elim hk_ (fun hs_ => hs_.1.2) (fun hn_ => (Kd.fresh' (Kd.S_lt (by (with_reducible repeat (first | apply Kd.S_alloc | apply Kd.S_drewN | apply Kd.S_drew)); exact HO_5.out)) k_ hn_)), Or.elim hk_ (fun hs_ => hs_.2) (fun hn_ => (Kd.fresh' (Kd.S_lt (by (with_reducible repeat (first | apply Kd.S_alloc | apply Kd.S_drewN | apply Kd.S_drew)); exact HO310.out)) k_ hn_))⟩)) (bs_ (by repeat (first | (with_reducible first | exact HB.out | apply ba_ | apply bn_ | apply bd_) | exact HB.out)))); have n4_ := am_ (bt_ (by repeat (first | (with_reducible first | exact HB.out | apply ba_ | apply bn_ | apply bd_) | exact HB.out)) hb); clear HO_5; clear HO_6; clear HO310; clear HB; have HO_5 := n0_; have HO_6 := n1_; have HO310 := n2_; have HO315 := n3_; have HB := n4_; clear n0_ n1_ n2_ n3_ n4_; (try clear hb); (try clear hb2); (try clear hk); (try clear hi); (try clear ho0)))
           go_ret
           exact ⟨by first | rfl | (simp [errW_none, errW_some] <;> rfl) | (simp [*, errW_none, errW_some] <;> rfl), by repeat (first | (with_reducible first | exact HB.out | apply ba_ | apply bn_ | apply bd_) | exact HB.out)⟩
          ·rw [if_neg c17] at H
           have c17b0 : (t311 != t316) = false := by simpa using c17
           (try (have c17b1 : decide (t311 = t316) = true := by simpa using c17))
           (try (have c17b2 : (t311 == t316) = true := by simpa using c17))
           clear c17
           replace H := Option.bind_eq_some_iff.mp H
           obtain ⟨t317, A250, H⟩ := H
           replace H : (if t317 = true then ((catenaryref09_SameAll.f kj6 x5_1 x6_1).bind fun t318 => (if t318 = true then (catenarylaw09_ConfDoes.l0 kj6 l1 t308 t313 (wrap64 (x7_1 + 1))) else (some false))) else (some false)) = some r := H
           have A25 := am_ A250
           clear A250
           by_cases c26 : t317 = true
           ·subst c26
            have H1 : ((catenaryref09_SameAll.f kj6 x5_1 x6_1).bind fun t318 => (if t318 = true then (catenarylaw09_ConfDoes.l0 kj6 l1 t308 t313 (wrap64 (x7_1 + 1))) else (some false))) = some r := by rw [if_pos rfl] at H; exact H
            clear H
            have H := H1
            clear H1
            replace H := Option.bind_eq_some_iff.mp H
            obtain ⟨t318, A270, H⟩ := H
            replace H : (if t318 = true then (catenarylaw09_ConfDoes.l0 kj6 l1 t308 t313 (wrap64 (x7_1 + 1))) else (some false)) = some r := H
            have A27 := am_ A270
            clear A270
            by_cases c28 : t318 = true
            ·subst c28
             have H1 : (catenarylaw09_ConfDoes.l0 kj6 l1 t308 t313 (wrap64 (x7_1 + 1))) = some r := by rw [if_pos rfl] at H; exact H
             clear H
             have H := H1
             clear H1
             have H' := am_ H
             clear H
             try go_wp2
             have n0_ := am_ (Kd.S_drew HO_5.out)
             have n1_ := am_ (Kd.V_drew HO_6.out)
             have n2_ := am_ (bd_ HB.out)
             clear HO_5
             clear HO_6
             clear HB
             have HO_5 := n0_
             have HO_6 := n1_
             have HB := n2_
             clear n0_ n1_ n2_
             have p303 : 0 ≤ (x7_1 : Int) := od_ (by first | (with_reducible assumption) | assumption)
             have q303 : x7_1 < (l1.length : Int) := od_ (by first | (with_reducible assumption) | assumption)
             obtain ⟨ad303, e303, hx303_0, hx303_1, hx303_2, hx303_3⟩ := at_T24 HR1.out x7_1 p303 q303
             have hw303_3 := hx303_3
             have hw303_2 := hx303_2
             have hw303_1 := hx303_1
             have hw303_0 := hx303_0
             cases e303
             replace hx303_0 := (HB.out.cell (cl_ w _ hx303_0)).trans hx303_0
             replace hx303_1 := (HB.out.cell (cl_ w _ hx303_1)).trans hx303_1
             replace hx303_2 := (HB.out.cell (cl_ w _ hx303_2)).trans hx303_2
             replace hx303_3 := (HB.out.cell (cl_ w _ hx303_3)).trans hx303_3
             replace p303 := eq_true p303
             replace q303 := eq_true q303
             have p305 : 0 ≤ (x7_1 : Int) := od_ (by first | (with_reducible assumption) | assumption)
             have q305 : x7_1 < (l1.length : Int) := od_ (by first | (with_reducible assumption) | assumption)
             obtain ⟨ad305, e305, hx305_0, hx305_1, hx305_2, hx305_3⟩ := at_T24 HR1.out x7_1 p305 q305
             have hw305_3 := hx305_3
             have hw305_2 := hx305_2
             have hw305_1 := hx305_1
             have hw305_0 := hx305_0
             obtain rfl : ad303 = ad305 := (by injection e305)
             replace hx305_0 := (HB.out.cell (cl_ w _ hx305_0)).trans hx305_0
             replace hx305_1 := (HB.out.cell (cl_ w _ hx305_1)).trans hx305_1
             replace hx305_2 := (HB.out.cell (cl_ w _ hx305_2)).trans hx305_2
             replace hx305_3 := (HB.out.cell (cl_ w _ hx305_3)).trans hx305_3
             replace p305 := eq_true p305
             replace q305 := eq_true q305
             obtain ⟨Ao30, co30, eo30⟩ := Kd.S_slice HO_5.out
             (first | subst eo30 | (injection eo30 with f1_ f2_ f3_; have f4_ := f1_.symm; have f5_ := f3_.symm; clear f1_ f2_ f3_; subst f4_; subst f5_))
             refine start_ (n := 13) (S := fun w' => w'.cell? (ad303.add ((x7_1).toNat * 4)) = some (.int .i64 ((rd_T24 l1 x7_1).f0)) ∧ w'.cell? ⟨(ad303.add ((x7_1).toNat * 4)).block, (ad303.add ((x7_1).toNat * 4)).off + 1, none⟩ = some (.int .i64 ((rd_T24 l1 x7_1).f1)) ∧ w'.cell? ⟨(ad303.add ((x7_1).toNat * 4)).block, (ad303.add ((x7_1).toNat * 4)).off + 2, none⟩ = some (.int .u64 ((rd_T24 l1 x7_1).f2)) ∧ w'.cell? ⟨(ad303.add ((x7_1).toNat * 4)).block, (ad303.add ((x7_1).toNat * 4)).off + 3, none⟩ = some (.int .i64 ((rd_T24 l1 x7_1).f3)) ∧ w'.cell? (ad303.add ((x7_1).toNat * 4)) = some (.int .i64 ((rd_T24 l1 x7_1).f0)) ∧ w'.cell? ⟨(ad303.add ((x7_1).toNat * 4)).block, (ad303.add ((x7_1).toNat * 4)).off + 1, none⟩ = some (.int .i64 ((rd_T24 l1 x7_1).f1)) ∧ w'.cell? ⟨(ad303.add ((x7_1).toNat * 4)).block, (ad303.add ((x7_1).toNat * 4)).off + 2, none⟩ = some (.int .u64 ((rd_T24 l1 x7_1).f2)) ∧ w'.cell? ⟨(ad303.add ((x7_1).toNat * 4)).block, (ad303.add ((x7_1).toNat * 4)).off + 3, none⟩ = some (.int .i64 ((rd_T24 l1 x7_1).f3))) (ds := []) #[false, false, false, false, false, false, false, false, false, false, false, false, false] (by kernel_rfl) rfl rfl ⟨((HB.out.cell (cl_ w _ hw303_0)).trans hw303_0), ((HB.out.cell (cl_ w _ hw303_1)).trans hw303_1), ((HB.out.cell (cl_ w _ hw303_2)).trans hw303_2), ((HB.out.cell (cl_ w _ hw303_3)).trans hw303_3), ((HB.out.cell (cl_ w _ hw305_0)).trans hw305_0), ((HB.out.cell (cl_ w _ hw305_1)).trans hw305_1), ((HB.out.cell (cl_ w _ hw305_2)).trans hw305_2), ((HB.out.cell (cl_ w _ hw305_3)).trans hw305_3)⟩ (fun hHeld => ?_); refine with_tabW catenarylaw09_ConfDoes.tab8 catenarylaw09_ConfDoes.bits8 (fun HT_ HW_ => ?_)
             generalize wc.drew = w29 at HO_5 HO_6 HB hx303_0 hx303_1 hx303_2 hx303_3 hx305_0 hx305_1 hx305_2 hx305_3 hHeld ⊢
             refine pure_ (i := 0) (N := some 29) (v := ?_) (a' := ?_) #[true, false, false, false, false, false, false, false, false, false, false, false, false] rfl rfl (any_of HT_.out (by kernel_rfl)) (fun _ _ _ h => h) (Or.inl ⟨by rfl, ?_⟩) ?_ ?_
             rotate_left
             ·intro w'
              go_simp
              with_reducible rfl
             rotate_left
             ·simp only [Act.put, sa_, sz_, ss_, i64_w, i32_w]
              rfl
             refine pure_ (i := 1) (N := some 30) (v := ?_) (a' := ?_) #[true, true, false, false, false, false, false, false, false, false, false, false, false] rfl rfl (any_of HT_.out (by kernel_rfl)) (fun _ _ _ h => h) (Or.inl ⟨by rfl, ?_⟩) ?_ ?_
             rotate_left
             ·intro w'
              go_simp
              with_reducible rfl
             rotate_left
             ·simp only [Act.put, sa_, sz_, ss_, i64_w, i32_w]
              rfl
             refine pure_ (i := 2) (N := some 31) (v := ?_) (a' := ?_) #[true, true, true, false, false, false, false, false, false, false, false, false, false] rfl rfl (any_of HT_.out (by kernel_rfl)) (fun _ _ _ h => h) (Or.inl ⟨by rfl, ?_⟩) ?_ ?_
             rotate_left
             ·intro w'
              go_simp
              with_reducible rfl
             rotate_left
             ·simp only [Act.put, sa_, sz_, ss_, i64_w, i32_w]
              rfl
             refine pure_ (i := 3) (N := some 32) (v := ?_) (a' := ?_) #[true, true, true, true, false, false, false, false, false, false, false, false, false] rfl rfl (any_of HT_.out (by kernel_rfl)) (fun _ _ _ h => h) (Or.inl ⟨by rfl, ?_⟩) ?_ ?_
             rotate_left
             ·intro w'
              go_simp
              with_reducible rfl
             rotate_left
             ·simp only [Act.put, sa_, sz_, ss_, i64_w, i32_w]
              rfl
             refine pure_ (i := 6) (N := some 35) (v := ?_) (a' := ?_) #[true, true, true, true, false, false, true, false, false, false, false, false, false] rfl rfl (any_of HT_.out (by kernel_rfl)) (fun _ _ _ h => h) (Or.inl ⟨by rfl, ?_⟩) ?_ ?_
             rotate_left
             ·intro w'
              go_simp
              with_reducible rfl
             rotate_left
             ·simp only [Act.put, sa_, sz_, ss_, i64_w, i32_w]
              rfl
             refine pure_ (i := 7) (N := some 36) (v := ?_) (a' := ?_) #[true, true, true, true, false, false, true, true, false, false, false, false, false] rfl rfl (any_of HT_.out (by kernel_rfl)) (fun _ _ _ h => h) (Or.inl ⟨by rfl, ?_⟩) ?_ ?_
             rotate_left
             ·intro w'
              go_simp
              with_reducible rfl
             rotate_left
             ·simp only [Act.put, sa_, sz_, ss_, i64_w, i32_w]
              rfl
             refine pure_ (i := 8) (N := some 37) (v := ?_) (a' := ?_) #[true, true, true, true, false, false, true, true, true, false, false, false, false] rfl rfl (any_of HT_.out (by kernel_rfl)) (fun _ _ _ h => h) (Or.inl ⟨by rfl, ?_⟩) ?_ ?_
             rotate_left
             ·intro w'
              go_simp
              with_reducible rfl
             rotate_left
             ·simp only [Act.put, sa_, sz_, ss_, i64_w, i32_w]
              rfl
             refine pure_ (i := 9) (N := some 38) (v := ?_) (a' := ?_) #[true, true, true, true, false, false, true, true, true, true, false, false, false] rfl rfl (any_of HT_.out (by kernel_rfl)) (fun _ _ _ h => h) (Or.inl ⟨by rfl, ?_⟩) ?_ ?_
             rotate_left
             ·intro w'
              go_simp
              with_reducible rfl
             rotate_left
             ·simp only [Act.put, sa_, sz_, ss_, i64_w, i32_w]
              rfl
             refine take_ (i := 4) (N := some 33) (v := ?_) (a' := ?_) #[true, true, true, true, true, false, true, true, true, true, false, false, false] rfl rfl (take_ofW HT_.out HW_.out (by kernel_rfl)) (fun _ _ _ h => h) (Or.inl ⟨by rfl, ?_⟩) hHeld ?_ ?_
             rotate_left
             ·rintro w' ⟨s0, s1, s2, s3, s4, s5, s6, s7⟩
              go_simp
              with_reducible rfl
             rotate_left
             ·simp only [Act.put, sa_, sz_, ss_, i64_w, i32_w]
              rfl
             refine take_ (i := 10) (N := some 39) (v := ?_) (a' := ?_) #[true, true, true, true, true, false, true, true, true, true, true, false, false] rfl rfl (take_ofW HT_.out HW_.out (by kernel_rfl)) (fun _ _ _ h => h) (Or.inl ⟨by rfl, ?_⟩) hHeld ?_ ?_
             rotate_left
             ·rintro w' ⟨s0, s1, s2, s3, s4, s5, s6, s7⟩
              go_simp
              with_reducible rfl
             rotate_left
             ·simp only [Act.put, sa_, sz_, ss_, i64_w, i32_w]
              rfl
             refine one_ (i := 5) (N := some 34) #[true, true, true, true, true, true, true, true, true, true, true, false, false] rfl rfl (one_of HT_.out (by kernel_rfl)) (by decide) (fun K hK => ?_)
             refine goes_ Tryd.func26 (by kernel_rfl) rfl #[.slice Ao30 x5_1.length co30, .agg #[.int .i64 ((rd_T24 l1 x7_1).f0), .int .i64 ((rd_T24 l1 x7_1).f1), .int .u64 ((rd_T24 l1 x7_1).f2), .int .i64 ((rd_T24 l1 x7_1).f3)]] (by rfl) rfl rfl (by (try simp only [List.map_toArray, List.map_cons, List.map_nil]); first | done | rfl | (simp only [List.length_drop, lt_]; rfl)) ?_
             with_reducible refine (conf_Can.calls kj6 _ _ x5_1 ((rd_T24 l1 x7_1).f0) ((rd_T24 l1 x7_1).f1) ((rd_T24 l1 x7_1).f2) ((rd_T24 l1 x7_1).f3) t304 _ ?side1 ?side2 A12.out).mono ?_
             (case side1 => repeat (first | exact (Kd.S_reads' HO_5.out).2.2 | (with_reducible refine Kd.C_alloc ?_ _) | (with_reducible refine Kd.C_drewN ?_ _) | (with_reducible refine Kd.C_drew ?_)))
             (case side2 => exact (Kd.S_reads' HO_5.out).2.1)
             rintro e w31 ⟨rfl, hb⟩
             refine ⟨_, rfl, ?_⟩
             have n0_ := am_ (Kd.S_below (by (with_reducible repeat (first | apply Kd.S_alloc | apply Kd.S_drewN | apply Kd.S_drew)); exact HO_5.out) hb)
             have n1_ := am_ (Kd.V_below (by (with_reducible repeat (first | apply Kd.V_alloc | apply Kd.V_drewN | apply Kd.V_drew)); exact HO_6.out) hb)
             have n2_ := am_ (bt_ (by repeat (first | (with_reducible first | exact HB.out | apply ba_ | apply bn_ | apply bd_) | exact HB.out)) hb)
             clear HO_5
             clear HO_6
             clear HB
             have HO_5 := n0_
             have HO_6 := n1_
             have HB := n2_
             clear n0_ n1_ n2_
             (try clear hb)
             (try clear hb2)
             (try clear hk)
             (try clear hi)
             obtain ⟨Ao32, co32, eo32⟩ := Kd.V_slice HO_6.out
             (first | subst eo32 | (injection eo32 with f1_ f2_ f3_; have f4_ := f1_.symm; have f5_ := f3_.symm; clear f1_ f2_ f3_; subst f4_; subst f5_))
             refine hK.out _ _ ⟨((HB.out.cell (cl_ w _ hw303_0)).trans hw303_0), ((HB.out.cell (cl_ w _ hw303_1)).trans hw303_1), ((HB.out.cell (cl_ w _ hw303_2)).trans hw303_2), ((HB.out.cell (cl_ w _ hw303_3)).trans hw303_3), ((HB.out.cell (cl_ w _ hw305_0)).trans hw305_0), ((HB.out.cell (cl_ w _ hw305_1)).trans hw305_1), ((HB.out.cell (cl_ w _ hw305_2)).trans hw305_2), ((HB.out.cell (cl_ w _ hw305_3)).trans hw305_3)⟩ (fun hHeld => ?_)
             clear hK K
             refine norm_ (a' := ?_) ?_ ?_
             rotate_left
             ·show Act.put _ (some 34) _ = _
              simp only [Act.put, sa_, sz_, ss_, i64_w, i32_w]
              rfl
             refine one_ (i := 11) (N := some 40) #[true, true, true, true, true, true, true, true, true, true, true, true, false] rfl rfl (one_of HT_.out (by kernel_rfl)) (by decide) (fun K hK => ?_)
             refine goes_ Tryd.func27 (by kernel_rfl) rfl #[.slice Ao32 x6_1.length co32, .agg #[.int .i64 ((rd_T24 l1 x7_1).f0), .int .i64 ((rd_T24 l1 x7_1).f1), .int .u64 ((rd_T24 l1 x7_1).f2), .int .i64 ((rd_T24 l1 x7_1).f3)]] (by rfl) rfl rfl (by (try simp only [List.map_toArray, List.map_cons, List.map_nil]); first | done | rfl | (simp only [List.length_drop, lt_]; rfl)) ?_
             with_reducible refine (catenaryref09_Can.calls kj6 _ _ x6_1 ((rd_T24 l1 x7_1).f0) ((rd_T24 l1 x7_1).f1) ((rd_T24 l1 x7_1).f2) ((rd_T24 l1 x7_1).f3) t306 _ ?side1 ?side2 A13.out).mono ?_
             (case side1 => repeat (first | exact (Kd.V_reads' HO_6.out).2.2 | (with_reducible refine Kd.C_alloc ?_ _) | (with_reducible refine Kd.C_drewN ?_ _) | (with_reducible refine Kd.C_drew ?_)))
             (case side2 => exact (Kd.V_reads' HO_6.out).2.1)
             rintro e w33 ⟨rfl, hb⟩
             refine ⟨_, rfl, ?_⟩
             have n0_ := am_ (Kd.S_below (by (with_reducible repeat (first | apply Kd.S_alloc | apply Kd.S_drewN | apply Kd.S_drew)); exact HO_5.out) hb)
             have n1_ := am_ (Kd.V_below (by (with_reducible repeat (first | apply Kd.V_alloc | apply Kd.V_drewN | apply Kd.V_drew)); exact HO_6.out) hb)
             have n2_ := am_ (bt_ (by repeat (first | (with_reducible first | exact HB.out | apply ba_ | apply bn_ | apply bd_) | exact HB.out)) hb)
             clear HO_5
             clear HO_6
             clear HB
             have HO_5 := n0_
             have HO_6 := n1_
             have HB := n2_
             clear n0_ n1_ n2_
             (try clear hb)
             (try clear hb2)
             (try clear hk)
             (try clear hi)
             refine hK.out _ _ ⟨((HB.out.cell (cl_ w _ hw303_0)).trans hw303_0), ((HB.out.cell (cl_ w _ hw303_1)).trans hw303_1), ((HB.out.cell (cl_ w _ hw303_2)).trans hw303_2), ((HB.out.cell (cl_ w _ hw303_3)).trans hw303_3), ((HB.out.cell (cl_ w _ hw305_0)).trans hw305_0), ((HB.out.cell (cl_ w _ hw305_1)).trans hw305_1), ((HB.out.cell (cl_ w _ hw305_2)).trans hw305_2), ((HB.out.cell (cl_ w _ hw305_3)).trans hw305_3)⟩ (fun hHeld => ?_)
             clear hK K
             refine norm_ (a' := ?_) ?_ ?_
             rotate_left
             ·show Act.put _ (some 40) _ = _
              simp only [Act.put, sa_, sz_, ss_, i64_w, i32_w]
              rfl
             refine pure_ (i := 12) (N := some 41) (v := ?_) (a' := ?_) #[true, true, true, true, true, true, true, true, true, true, true, true, true] rfl rfl (any_of HT_.out (by kernel_rfl)) (fun _ _ _ h => h) (Or.inl ⟨by rfl, ?_⟩) ?_ ?_
             rotate_left
             ·intro w'
              go_simp
              with_reducible rfl
             rotate_left
             ·simp only [Act.put, sa_, sz_, ss_, i64_w, i32_w]
              rfl
             refine done_ (done_of HT_.out (by kernel_rfl)) ?_
             have p307 : 0 ≤ (x7_1 : Int) := od_ (by first | (with_reducible assumption) | assumption)
             have q307 : x7_1 < (l1.length : Int) := od_ (by first | (with_reducible assumption) | assumption)
             obtain ⟨ad307, e307, hx307_0, hx307_1, hx307_2, hx307_3⟩ := at_T24 HR1.out x7_1 p307 q307
             obtain rfl : ad303 = ad307 := (by injection e307)
             replace hx307_0 := (HB.out.cell (cl_ w _ hx307_0)).trans hx307_0
             replace hx307_1 := (HB.out.cell (cl_ w _ hx307_1)).trans hx307_1
             replace hx307_2 := (HB.out.cell (cl_ w _ hx307_2)).trans hx307_2
             replace hx307_3 := (HB.out.cell (cl_ w _ hx307_3)).trans hx307_3
             replace p307 := eq_true p307
             replace q307 := eq_true q307
             try go_wp2_with (first | ((with_reducible refine gate_callee (f := 28) rfl ?_); refine goesL_ (some 48) rfl rfl Tryd.func28 (by kernel_rfl) rfl #[.slice Ao30 x5_1.length co30, .agg #[.int .i64 ((rd_T24 l1 x7_1).f0), .int .i64 ((rd_T24 l1 x7_1).f1), .int .u64 ((rd_T24 l1 x7_1).f2), .int .i64 ((rd_T24 l1 x7_1).f3)]] rfl (by (try simp only [List.map_toArray, List.map_cons, List.map_nil]); first | done | rfl | (simp only [List.length_drop, lt_]; rfl)) ?_; (with_reducible refine (conf_Do.calls kj6 _ _ x5_1 ((rd_T24 l1 x7_1).f0) ((rd_T24 l1 x7_1).f1) ((rd_T24 l1 x7_1).f2) ((rd_T24 l1 x7_1).f3) t308 t311 _ ?side1 ?side2 A15.out).mono ?_); (case side1 => repeat (first | exact (Kd.S_reads' HO_5.out).2.2 | (with_reducible refine Kd.C_alloc ?_ _) | (with_reducible refine Kd.C_drewN ?_ _) | (with_reducible refine Kd.C_drew ?_))); (case side2 => exact (Kd.S_reads' HO_5.out).2.1); rintro e w34 ⟨v309, rfl, ho0, hb⟩; refine ⟨_, rfl, ?_⟩; have n0_ := am_ (Kd.S_elder' (by (with_reducible repeat (first | apply Kd.S_alloc | apply Kd.S_drewN | apply Kd.S_drew)); exact HO_5.out) (Kd.S_base ho0) hb); have n1_ := am_ (Kd.V_elder' (by (with_reducible repeat (first | apply Kd.V_alloc | apply Kd.V_drewN | apply Kd.V_drew)); exact HO_6.out) (Kd.S_base ho0) hb); have n2_ := am_ (Kd.S_lower (Kd.S_new' (Kd.S_newM (M := fun k_ => (w.heap.size ≤ k_)) ho0 (bs_ (by repeat (first | (with_reducible first | exact HB.out | apply ba_ | apply bn_ | apply bd_) | exact HB.out))) (fun k_ h_ => h_)) (Kd.S_lt (by (with_reducible repeat (first | apply Kd.S_alloc | apply Kd.S_drewN | apply Kd.S_drew)); exact HO_5.out))) (bs_ (by repeat (first | (with_reducible first | exact HB.out | apply ba_ | apply bn_ | apply bd_) | exact HB.out)))); have n3_ := am_ (bt_ (by repeat (first | (with_reducible first | exact HB.out | apply ba_ | apply bn_ | apply bd_) | exact HB.out)) hb); clear HO_5; clear HO_6; clear HB; have HO_5 := n0_; have HO_6 := n1_; have HO310 := n2_; have HB := n3_; clear n0_ n1_ n2_ n3_; (try clear hb); (try clear hb2); (try clear hk); (try clear hi); (try clear ho0); have p312 : 0 ≤ (x7_1 : Int) := od_ (by first | (with_reducible assumption) | assumption); have q312 : x7_1 < (l1.length : Int) := od_ (by first | (with_reducible assumption) | assumption); obtain ⟨ad312, e312, hx312_0, hx312_1, hx312_2, hx312_3⟩ := at_T24 HR1.out x7_1 p312 q312; obtain rfl : ad303 = ad312 := (by injection e312); replace hx312_0 := (HB.out.cell (cl_ w _ hx312_0)).trans hx312_0; replace hx312_1 := (HB.out.cell (cl_ w _ hx312_1)).trans hx312_1; replace hx312_2 := (HB.out.cell (cl_ w _ hx312_2)).trans hx312_2; replace hx312_3 := (HB.out.cell (cl_ w _ hx312_3)).trans hx312_3; replace p312 := eq_true p312; replace q312 := eq_true q312) | ((with_reducible refine gate_callee (f := 29) rfl ?_); refine goesL_ (some 57) rfl rfl Tryd.func29 (by kernel_rfl) rfl #[.slice Ao32 x6_1.length co32, .agg #[.int .i64 ((rd_T24 l1 x7_1).f0), .int .i64 ((rd_T24 l1 x7_1).f1), .int .u64 ((rd_T24 l1 x7_1).f2), .int .i64 ((rd_T24 l1 x7_1).f3)]] rfl (by (try simp only [List.map_toArray, List.map_cons, List.map_nil]); first | done | rfl | (simp only [List.length_drop, lt_]; rfl)) ?_; (with_reducible refine (catenaryref09_Do.calls kj6 (fun k_ => (((P0_ k_ ∨ w.heap.size ≤ k_) ∧ some k_ ≠ (.slice Ao30 x5_1.length co30 : Value).ownBlock) ∧ some k_ ≠ (v309 : Value).ownBlock)) _ _ x6_1 ((rd_T24 l1 x7_1).f0) ((rd_T24 l1 x7_1).f1) ((rd_T24 l1 x7_1).f2) ((rd_T24 l1 x7_1).f3) t313 t316 _ ?side1 A16.out).mono ?_); (case side1 => exact HO_6.out); rintro e w35 ⟨v314, rfl, ho0, hb⟩; refine ⟨_, rfl, ?_⟩; have n0_ := am_ (Kd.S_below (by (with_reducible repeat (first | apply Kd.S_alloc | apply Kd.S_drewN | apply Kd.S_drew)); exact HO_5.out) hb); have n1_ := am_ (Kd.V_below (by (with_reducible repeat (first | apply Kd.V_alloc | apply Kd.V_drewN | apply Kd.V_drew)); exact HO_6.out) hb); have n2_ := am_ (Kd.S_below (by (with_reducible repeat (first | apply Kd.S_alloc | apply Kd.S_drewN | apply Kd.S_drew)); exact HO310.out) hb); have n3_ := am_ (Kd.V_lower (Kd.V_mono (ok' := fun k_ => (P0_ k_ ∨ w.heap.size ≤ k_) ∧ some k_ ≠ (.slice Ao30 x5_1.length co30 : Value).ownBlock ∧ some k_ ≠ (v309 : Value).ownBlock) ho0 (fun k_ hk_ => ⟨Or.elim hk_ (fun hs_ => hs_.1.1) (fun hn_ => (.inr (Nat.le_trans (bs_ (by repeat (first | (with_reducible first | exact HB.out | apply ba_ | apply bn_ | apply bd_) | exact HB.out))) hn_))), Or.elim hk_ (fun hs_ => hs_.1.2) (fun hn_ => (Kd.fresh' (Kd.S_lt (by (with_reducible repeat (first | apply Kd.S_alloc | apply Kd.S_drewN | apply Kd.S_drew)); exact HO_5.out)) k_ hn_)), Or.elim hk_ (fun hs_ => hs_.2) (fun hn_ => (Kd.fresh' (Kd.S_lt (by (with_reducible repeat (first | apply Kd.S_alloc | apply Kd.S_drewN | apply Kd.S_drew)); exact HO310.out)) k_ hn_))⟩)) (bs_ (by repeat (first | (with_reducible first | exact HB.out | apply ba_ | apply bn_ | apply bd_) | exact HB.out)))); have n4_ := am_ (bt_ (by repeat (first | (with_reducible first | exact HB.out | apply ba_ | apply bn_ | apply bd_) | exact HB.out)) hb); clear HO_5; clear HO_6; clear HO310; clear HB; have HO_5 := n0_; have HO_6 := n1_; have HO310 := n2_; have HO315 := n3_; have HB := n4_; clear n0_ n1_ n2_ n3_ n4_; (try clear hb); (try clear hb2); (try clear hk); (try clear hi); (try clear ho0); obtain ⟨Ao36, co36, eo36⟩ := Kd.S_slice HO310.out; subst eo36; obtain ⟨Ao37, co37, eo37⟩ := Kd.V_slice HO315.out; subst eo37) | (go_at_call 30; (with_reducible refine (catenaryref09_SameAll.calls kj6 _ _ t308 _ _ t313 true _ ?side1 ?side2 ?side3 ?side4 A25.out).mono ?_); (case side1 => repeat (first | exact (Kd.S_reads' HO310.out).2.2 | (with_reducible refine Kd.C_alloc ?_ _) | (with_reducible refine Kd.C_drewN ?_ _) | (with_reducible refine Kd.C_drew ?_))); (case side2 => exact (Kd.S_reads' HO310.out).2.1); (case side3 => repeat (first | exact (Kd.V_reads' HO315.out).2.2 | (with_reducible refine Kd.C_alloc ?_ _) | (with_reducible refine Kd.C_drewN ?_ _) | (with_reducible refine Kd.C_drew ?_))); (case side4 => exact (Kd.V_reads' HO315.out).2.1); rintro e w38 ⟨rfl, hb⟩; have n0_ := am_ (Kd.S_below (by (with_reducible repeat (first | apply Kd.S_alloc | apply Kd.S_drewN | apply Kd.S_drew)); exact HO_5.out) hb); have n1_ := am_ (Kd.V_below (by (with_reducible repeat (first | apply Kd.V_alloc | apply Kd.V_drewN | apply Kd.V_drew)); exact HO_6.out) hb); have n2_ := am_ (Kd.S_below (by (with_reducible repeat (first | apply Kd.S_alloc | apply Kd.S_drewN | apply Kd.S_drew)); exact HO310.out) hb); have n3_ := am_ (Kd.V_below (by (with_reducible repeat (first | apply Kd.V_alloc | apply Kd.V_drewN | apply Kd.V_drew)); exact HO315.out) hb); have n4_ := am_ (bt_ (by repeat (first | (with_reducible first | exact HB.out | apply ba_ | apply bn_ | apply bd_) | exact HB.out)) hb); clear HO_5; clear HO_6; clear HO310; clear HO315; clear HB; have HO_5 := n0_; have HO_6 := n1_; have HO310 := n2_; have HO315 := n3_; have HB := n4_; clear n0_ n1_ n2_ n3_ n4_; (try clear hb); (try clear hb2); (try clear hk); (try clear hi)) | (go_at_call 30; (with_reducible refine (catenaryref09_SameAll.calls kj6 _ _ x5_1 _ _ x6_1 true _ ?side1 ?side2 ?side3 ?side4 A27.out).mono ?_); (case side1 => repeat (first | exact (Kd.S_reads' HO_5.out).2.2 | (with_reducible refine Kd.C_alloc ?_ _) | (with_reducible refine Kd.C_drewN ?_ _) | (with_reducible refine Kd.C_drew ?_))); (case side2 => exact (Kd.S_reads' HO_5.out).2.1); (case side3 => repeat (first | exact (Kd.V_reads' HO_6.out).2.2 | (with_reducible refine Kd.C_alloc ?_ _) | (with_reducible refine Kd.C_drewN ?_ _) | (with_reducible refine Kd.C_drew ?_))); (case side4 => exact (Kd.V_reads' HO_6.out).2.1); rintro e w39 ⟨rfl, hb⟩; have n0_ := am_ (Kd.S_below (by (with_reducible repeat (first | apply Kd.S_alloc | apply Kd.S_drewN | apply Kd.S_drew)); exact HO_5.out) hb); have n1_ := am_ (Kd.V_below (by (with_reducible repeat (first | apply Kd.V_alloc | apply Kd.V_drewN | apply Kd.V_drew)); exact HO_6.out) hb); have n2_ := am_ (Kd.S_below (by (with_reducible repeat (first | apply Kd.S_alloc | apply Kd.S_drewN | apply Kd.S_drew)); exact HO310.out) hb); have n3_ := am_ (Kd.V_below (by (with_reducible repeat (first | apply Kd.V_alloc | apply Kd.V_drewN | apply Kd.V_drew)); exact HO315.out) hb); have n4_ := am_ (bt_ (by repeat (first | (with_reducible first | exact HB.out | apply ba_ | apply bn_ | apply bd_) | exact HB.out)) hb); clear HO_5; clear HO_6; clear HO310; clear HO315; clear HB; have HO_5 := n0_; have HO_6 := n1_; have HO310 := n2_; have HO315 := n3_; have HB := n4_; clear n0_ n1_ n2_ n3_ n4_; (try clear hb); (try clear hb2); (try clear hk); (try clear hi)))
             go_roundg kj6
             case measure => have := HK1.out; have := HJ6.out; omega
             case rel => exact ⟨(t308), (t313), (wrap64 (x7_1 + 1)), (by first | rfl | (simp; done) | (simp [*]; done)), H', ⟨by have := HK1.out; have := HJ6.out; omega⟩, ⟨by (with_reducible repeat (first | apply Kd.S_alloc | apply Kd.S_drewN | apply Kd.S_drew)); exact Kd.S_mono HO310.out (fun _ hk => hk.1.1)⟩, ⟨by (with_reducible repeat (first | apply Kd.V_alloc | apply Kd.V_drewN | apply Kd.V_drew)); exact Kd.V_mono HO315.out (fun _ hk => ⟨hk.1, hk.2.2⟩)⟩, ⟨by repeat (first | (with_reducible first | exact HB.out | apply ba_ | apply bn_ | apply bd_) | exact HB.out)⟩⟩
            ·replace c28 := Bool.eq_false_iff.mpr c28
             subst c28
             have H1 : (some false) = some r := by rw [if_neg (show ¬ (false = true) by decide)] at H; exact H
             clear H
             have H := H1
             clear H1
             obtain rfl := Option.some.inj H
             try go_wp2
             have n0_ := am_ (Kd.S_drew HO_5.out)
             have n1_ := am_ (Kd.V_drew HO_6.out)
             have n2_ := am_ (bd_ HB.out)
             clear HO_5
             clear HO_6
             clear HB
             have HO_5 := n0_
             have HO_6 := n1_
             have HB := n2_
             clear n0_ n1_ n2_
             have p303 : 0 ≤ (x7_1 : Int) := od_ (by first | (with_reducible assumption) | assumption)
             have q303 : x7_1 < (l1.length : Int) := od_ (by first | (with_reducible assumption) | assumption)
             obtain ⟨ad303, e303, hx303_0, hx303_1, hx303_2, hx303_3⟩ := at_T24 HR1.out x7_1 p303 q303
             have hw303_3 := hx303_3
             have hw303_2 := hx303_2
             have hw303_1 := hx303_1
             have hw303_0 := hx303_0
             cases e303
             replace hx303_0 := (HB.out.cell (cl_ w _ hx303_0)).trans hx303_0
             replace hx303_1 := (HB.out.cell (cl_ w _ hx303_1)).trans hx303_1
             replace hx303_2 := (HB.out.cell (cl_ w _ hx303_2)).trans hx303_2
             replace hx303_3 := (HB.out.cell (cl_ w _ hx303_3)).trans hx303_3
             replace p303 := eq_true p303
             replace q303 := eq_true q303
             have p305 : 0 ≤ (x7_1 : Int) := od_ (by first | (with_reducible assumption) | assumption)
             have q305 : x7_1 < (l1.length : Int) := od_ (by first | (with_reducible assumption) | assumption)
             obtain ⟨ad305, e305, hx305_0, hx305_1, hx305_2, hx305_3⟩ := at_T24 HR1.out x7_1 p305 q305
             have hw305_3 := hx305_3
             have hw305_2 := hx305_2
             have hw305_1 := hx305_1
             have hw305_0 := hx305_0
             obtain rfl : ad303 = ad305 := (by injection e305)
             replace hx305_0 := (HB.out.cell (cl_ w _ hx305_0)).trans hx305_0
             replace hx305_1 := (HB.out.cell (cl_ w _ hx305_1)).trans hx305_1
             replace hx305_2 := (HB.out.cell (cl_ w _ hx305_2)).trans hx305_2
             replace hx305_3 := (HB.out.cell (cl_ w _ hx305_3)).trans hx305_3
             replace p305 := eq_true p305
             replace q305 := eq_true q305
             obtain ⟨Ao41, co41, eo41⟩ := Kd.S_slice HO_5.out
             (first | subst eo41 | (injection eo41 with f1_ f2_ f3_; have f4_ := f1_.symm; have f5_ := f3_.symm; clear f1_ f2_ f3_; subst f4_; subst f5_))
             refine start_ (n := 13) (S := fun w' => w'.cell? (ad303.add ((x7_1).toNat * 4)) = some (.int .i64 ((rd_T24 l1 x7_1).f0)) ∧ w'.cell? ⟨(ad303.add ((x7_1).toNat * 4)).block, (ad303.add ((x7_1).toNat * 4)).off + 1, none⟩ = some (.int .i64 ((rd_T24 l1 x7_1).f1)) ∧ w'.cell? ⟨(ad303.add ((x7_1).toNat * 4)).block, (ad303.add ((x7_1).toNat * 4)).off + 2, none⟩ = some (.int .u64 ((rd_T24 l1 x7_1).f2)) ∧ w'.cell? ⟨(ad303.add ((x7_1).toNat * 4)).block, (ad303.add ((x7_1).toNat * 4)).off + 3, none⟩ = some (.int .i64 ((rd_T24 l1 x7_1).f3)) ∧ w'.cell? (ad303.add ((x7_1).toNat * 4)) = some (.int .i64 ((rd_T24 l1 x7_1).f0)) ∧ w'.cell? ⟨(ad303.add ((x7_1).toNat * 4)).block, (ad303.add ((x7_1).toNat * 4)).off + 1, none⟩ = some (.int .i64 ((rd_T24 l1 x7_1).f1)) ∧ w'.cell? ⟨(ad303.add ((x7_1).toNat * 4)).block, (ad303.add ((x7_1).toNat * 4)).off + 2, none⟩ = some (.int .u64 ((rd_T24 l1 x7_1).f2)) ∧ w'.cell? ⟨(ad303.add ((x7_1).toNat * 4)).block, (ad303.add ((x7_1).toNat * 4)).off + 3, none⟩ = some (.int .i64 ((rd_T24 l1 x7_1).f3))) (ds := []) #[false, false, false, false, false, false, false, false, false, false, false, false, false] (by kernel_rfl) rfl rfl ⟨((HB.out.cell (cl_ w _ hw303_0)).trans hw303_0), ((HB.out.cell (cl_ w _ hw303_1)).trans hw303_1), ((HB.out.cell (cl_ w _ hw303_2)).trans hw303_2), ((HB.out.cell (cl_ w _ hw303_3)).trans hw303_3), ((HB.out.cell (cl_ w _ hw305_0)).trans hw305_0), ((HB.out.cell (cl_ w _ hw305_1)).trans hw305_1), ((HB.out.cell (cl_ w _ hw305_2)).trans hw305_2), ((HB.out.cell (cl_ w _ hw305_3)).trans hw305_3)⟩ (fun hHeld => ?_); refine with_tabW catenarylaw09_ConfDoes.tab8 catenarylaw09_ConfDoes.bits8 (fun HT_ HW_ => ?_)
             generalize wc.drew = w40 at HO_5 HO_6 HB hx303_0 hx303_1 hx303_2 hx303_3 hx305_0 hx305_1 hx305_2 hx305_3 hHeld ⊢
             refine pure_ (i := 0) (N := some 29) (v := ?_) (a' := ?_) #[true, false, false, false, false, false, false, false, false, false, false, false, false] rfl rfl (any_of HT_.out (by kernel_rfl)) (fun _ _ _ h => h) (Or.inl ⟨by rfl, ?_⟩) ?_ ?_
             rotate_left
             ·intro w'
              go_simp
              with_reducible rfl
             rotate_left
             ·simp only [Act.put, sa_, sz_, ss_, i64_w, i32_w]
              rfl
             refine pure_ (i := 1) (N := some 30) (v := ?_) (a' := ?_) #[true, true, false, false, false, false, false, false, false, false, false, false, false] rfl rfl (any_of HT_.out (by kernel_rfl)) (fun _ _ _ h => h) (Or.inl ⟨by rfl, ?_⟩) ?_ ?_
             rotate_left
             ·intro w'
              go_simp
              with_reducible rfl
             rotate_left
             ·simp only [Act.put, sa_, sz_, ss_, i64_w, i32_w]
              rfl
             refine pure_ (i := 2) (N := some 31) (v := ?_) (a' := ?_) #[true, true, true, false, false, false, false, false, false, false, false, false, false] rfl rfl (any_of HT_.out (by kernel_rfl)) (fun _ _ _ h => h) (Or.inl ⟨by rfl, ?_⟩) ?_ ?_
             rotate_left
             ·intro w'
              go_simp
              with_reducible rfl
             rotate_left
             ·simp only [Act.put, sa_, sz_, ss_, i64_w, i32_w]
              rfl
             refine pure_ (i := 3) (N := some 32) (v := ?_) (a' := ?_) #[true, true, true, true, false, false, false, false, false, false, false, false, false] rfl rfl (any_of HT_.out (by kernel_rfl)) (fun _ _ _ h => h) (Or.inl ⟨by rfl, ?_⟩) ?_ ?_
             rotate_left
             ·intro w'
              go_simp
              with_reducible rfl
             rotate_left
             ·simp only [Act.put, sa_, sz_, ss_, i64_w, i32_w]
              rfl
             refine pure_ (i := 6) (N := some 35) (v := ?_) (a' := ?_) #[true, true, true, true, false, false, true, false, false, false, false, false, false] rfl rfl (any_of HT_.out (by kernel_rfl)) (fun _ _ _ h => h) (Or.inl ⟨by rfl, ?_⟩) ?_ ?_
             rotate_left
             ·intro w'
              go_simp
              with_reducible rfl
             rotate_left
             ·simp only [Act.put, sa_, sz_, ss_, i64_w, i32_w]
              rfl
             refine pure_ (i := 7) (N := some 36) (v := ?_) (a' := ?_) #[true, true, true, true, false, false, true, true, false, false, false, false, false] rfl rfl (any_of HT_.out (by kernel_rfl)) (fun _ _ _ h => h) (Or.inl ⟨by rfl, ?_⟩) ?_ ?_
             rotate_left
             ·intro w'
              go_simp
              with_reducible rfl
             rotate_left
             ·simp only [Act.put, sa_, sz_, ss_, i64_w, i32_w]
              rfl
             refine pure_ (i := 8) (N := some 37) (v := ?_) (a' := ?_) #[true, true, true, true, false, false, true, true, true, false, false, false, false] rfl rfl (any_of HT_.out (by kernel_rfl)) (fun _ _ _ h => h) (Or.inl ⟨by rfl, ?_⟩) ?_ ?_
             rotate_left
             ·intro w'
              go_simp
              with_reducible rfl
             rotate_left
             ·simp only [Act.put, sa_, sz_, ss_, i64_w, i32_w]
              rfl
             refine pure_ (i := 9) (N := some 38) (v := ?_) (a' := ?_) #[true, true, true, true, false, false, true, true, true, true, false, false, false] rfl rfl (any_of HT_.out (by kernel_rfl)) (fun _ _ _ h => h) (Or.inl ⟨by rfl, ?_⟩) ?_ ?_
             rotate_left
             ·intro w'
              go_simp
              with_reducible rfl
             rotate_left
             ·simp only [Act.put, sa_, sz_, ss_, i64_w, i32_w]
              rfl
             refine take_ (i := 4) (N := some 33) (v := ?_) (a' := ?_) #[true, true, true, true, true, false, true, true, true, true, false, false, false] rfl rfl (take_ofW HT_.out HW_.out (by kernel_rfl)) (fun _ _ _ h => h) (Or.inl ⟨by rfl, ?_⟩) hHeld ?_ ?_
             rotate_left
             ·rintro w' ⟨s0, s1, s2, s3, s4, s5, s6, s7⟩
              go_simp
              with_reducible rfl
             rotate_left
             ·simp only [Act.put, sa_, sz_, ss_, i64_w, i32_w]
              rfl
             refine take_ (i := 10) (N := some 39) (v := ?_) (a' := ?_) #[true, true, true, true, true, false, true, true, true, true, true, false, false] rfl rfl (take_ofW HT_.out HW_.out (by kernel_rfl)) (fun _ _ _ h => h) (Or.inl ⟨by rfl, ?_⟩) hHeld ?_ ?_
             rotate_left
             ·rintro w' ⟨s0, s1, s2, s3, s4, s5, s6, s7⟩
              go_simp
              with_reducible rfl
             rotate_left
             ·simp only [Act.put, sa_, sz_, ss_, i64_w, i32_w]
              rfl
             refine one_ (i := 5) (N := some 34) #[true, true, true, true, true, true, true, true, true, true, true, false, false] rfl rfl (one_of HT_.out (by kernel_rfl)) (by decide) (fun K hK => ?_)
             refine goes_ Tryd.func26 (by kernel_rfl) rfl #[.slice Ao41 x5_1.length co41, .agg #[.int .i64 ((rd_T24 l1 x7_1).f0), .int .i64 ((rd_T24 l1 x7_1).f1), .int .u64 ((rd_T24 l1 x7_1).f2), .int .i64 ((rd_T24 l1 x7_1).f3)]] (by rfl) rfl rfl (by (try simp only [List.map_toArray, List.map_cons, List.map_nil]); first | done | rfl | (simp only [List.length_drop, lt_]; rfl)) ?_
             with_reducible refine (conf_Can.calls kj6 _ _ x5_1 ((rd_T24 l1 x7_1).f0) ((rd_T24 l1 x7_1).f1) ((rd_T24 l1 x7_1).f2) ((rd_T24 l1 x7_1).f3) t304 _ ?side1 ?side2 A12.out).mono ?_
             (case side1 => repeat (first | exact (Kd.S_reads' HO_5.out).2.2 | (with_reducible refine Kd.C_alloc ?_ _) | (with_reducible refine Kd.C_drewN ?_ _) | (with_reducible refine Kd.C_drew ?_)))
             (case side2 => exact (Kd.S_reads' HO_5.out).2.1)
             rintro e w42 ⟨rfl, hb⟩
             refine ⟨_, rfl, ?_⟩
             have n0_ := am_ (Kd.S_below (by (with_reducible repeat (first | apply Kd.S_alloc | apply Kd.S_drewN | apply Kd.S_drew)); exact HO_5.out) hb)
             have n1_ := am_ (Kd.V_below (by (with_reducible repeat (first | apply Kd.V_alloc | apply Kd.V_drewN | apply Kd.V_drew)); exact HO_6.out) hb)
             have n2_ := am_ (bt_ (by repeat (first | (with_reducible first | exact HB.out | apply ba_ | apply bn_ | apply bd_) | exact HB.out)) hb)
             clear HO_5
             clear HO_6
             clear HB
             have HO_5 := n0_
             have HO_6 := n1_
             have HB := n2_
             clear n0_ n1_ n2_
             (try clear hb)
             (try clear hb2)
             (try clear hk)
             (try clear hi)
             obtain ⟨Ao43, co43, eo43⟩ := Kd.V_slice HO_6.out
             (first | subst eo43 | (injection eo43 with f1_ f2_ f3_; have f4_ := f1_.symm; have f5_ := f3_.symm; clear f1_ f2_ f3_; subst f4_; subst f5_))
             refine hK.out _ _ ⟨((HB.out.cell (cl_ w _ hw303_0)).trans hw303_0), ((HB.out.cell (cl_ w _ hw303_1)).trans hw303_1), ((HB.out.cell (cl_ w _ hw303_2)).trans hw303_2), ((HB.out.cell (cl_ w _ hw303_3)).trans hw303_3), ((HB.out.cell (cl_ w _ hw305_0)).trans hw305_0), ((HB.out.cell (cl_ w _ hw305_1)).trans hw305_1), ((HB.out.cell (cl_ w _ hw305_2)).trans hw305_2), ((HB.out.cell (cl_ w _ hw305_3)).trans hw305_3)⟩ (fun hHeld => ?_)
             clear hK K
             refine norm_ (a' := ?_) ?_ ?_
             rotate_left
             ·show Act.put _ (some 34) _ = _
              simp only [Act.put, sa_, sz_, ss_, i64_w, i32_w]
              rfl
             refine one_ (i := 11) (N := some 40) #[true, true, true, true, true, true, true, true, true, true, true, true, false] rfl rfl (one_of HT_.out (by kernel_rfl)) (by decide) (fun K hK => ?_)
             refine goes_ Tryd.func27 (by kernel_rfl) rfl #[.slice Ao43 x6_1.length co43, .agg #[.int .i64 ((rd_T24 l1 x7_1).f0), .int .i64 ((rd_T24 l1 x7_1).f1), .int .u64 ((rd_T24 l1 x7_1).f2), .int .i64 ((rd_T24 l1 x7_1).f3)]] (by rfl) rfl rfl (by (try simp only [List.map_toArray, List.map_cons, List.map_nil]); first | done | rfl | (simp only [List.length_drop, lt_]; rfl)) ?_
             with_reducible refine (catenaryref09_Can.calls kj6 _ _ x6_1 ((rd_T24 l1 x7_1).f0) ((rd_T24 l1 x7_1).f1) ((rd_T24 l1 x7_1).f2) ((rd_T24 l1 x7_1).f3) t306 _ ?side1 ?side2 A13.out).mono ?_
             (case side1 => repeat (first | exact (Kd.V_reads' HO_6.out).2.2 | (with_reducible refine Kd.C_alloc ?_ _) | (with_reducible refine Kd.C_drewN ?_ _) | (with_reducible refine Kd.C_drew ?_)))
             (case side2 => exact (Kd.V_reads' HO_6.out).2.1)
             rintro e w44 ⟨rfl, hb⟩
             refine ⟨_, rfl, ?_⟩
             have n0_ := am_ (Kd.S_below (by (with_reducible repeat (first | apply Kd.S_alloc | apply Kd.S_drewN | apply Kd.S_drew)); exact HO_5.out) hb)
             have n1_ := am_ (Kd.V_below (by (with_reducible repeat (first | apply Kd.V_alloc | apply Kd.V_drewN | apply Kd.V_drew)); exact HO_6.out) hb)
             have n2_ := am_ (bt_ (by repeat (first | (with_reducible first | exact HB.out | apply ba_ | apply bn_ | apply bd_) | exact HB.out)) hb)
             clear HO_5
             clear HO_6
             clear HB
             have HO_5 := n0_
             have HO_6 := n1_
             have HB := n2_
             clear n0_ n1_ n2_
             (try clear hb)
             (try clear hb2)
             (try clear hk)
             (try clear hi)
             refine hK.out _ _ ⟨((HB.out.cell (cl_ w _ hw303_0)).trans hw303_0), ((HB.out.cell (cl_ w _ hw303_1)).trans hw303_1), ((HB.out.cell (cl_ w _ hw303_2)).trans hw303_2), ((HB.out.cell (cl_ w _ hw303_3)).trans hw303_3), ((HB.out.cell (cl_ w _ hw305_0)).trans hw305_0), ((HB.out.cell (cl_ w _ hw305_1)).trans hw305_1), ((HB.out.cell (cl_ w _ hw305_2)).trans hw305_2), ((HB.out.cell (cl_ w _ hw305_3)).trans hw305_3)⟩ (fun hHeld => ?_)
             clear hK K
             refine norm_ (a' := ?_) ?_ ?_
             rotate_left
             ·show Act.put _ (some 40) _ = _
              simp only [Act.put, sa_, sz_, ss_, i64_w, i32_w]
              rfl
             refine pure_ (i := 12) (N := some 41) (v := ?_) (a' := ?_) #[true, true, true, true, true, true, true, true, true, true, true, true, true] rfl rfl (any_of HT_.out (by kernel_rfl)) (fun _ _ _ h => h) (Or.inl ⟨by rfl, ?_⟩) ?_ ?_
             rotate_left
             ·intro w'
              go_simp
              with_reducible rfl
             rotate_left
             ·simp only [Act.put, sa_, sz_, ss_, i64_w, i32_w]
              rfl
             refine done_ (done_of HT_.out (by kernel_rfl)) ?_
             have p307 : 0 ≤ (x7_1 : Int) := od_ (by first | (with_reducible assumption) | assumption)
             have q307 : x7_1 < (l1.length : Int) := od_ (by first | (with_reducible assumption) | assumption)
             obtain ⟨ad307, e307, hx307_0, hx307_1, hx307_2, hx307_3⟩ := at_T24 HR1.out x7_1 p307 q307
             obtain rfl : ad303 = ad307 := (by injection e307)
             replace hx307_0 := (HB.out.cell (cl_ w _ hx307_0)).trans hx307_0
             replace hx307_1 := (HB.out.cell (cl_ w _ hx307_1)).trans hx307_1
             replace hx307_2 := (HB.out.cell (cl_ w _ hx307_2)).trans hx307_2
             replace hx307_3 := (HB.out.cell (cl_ w _ hx307_3)).trans hx307_3
             replace p307 := eq_true p307
             replace q307 := eq_true q307
             try go_wp2_with (first | ((with_reducible refine gate_callee (f := 28) rfl ?_); refine goesL_ (some 48) rfl rfl Tryd.func28 (by kernel_rfl) rfl #[.slice Ao41 x5_1.length co41, .agg #[.int .i64 ((rd_T24 l1 x7_1).f0), .int .i64 ((rd_T24 l1 x7_1).f1), .int .u64 ((rd_T24 l1 x7_1).f2), .int .i64 ((rd_T24 l1 x7_1).f3)]] rfl (by (try simp only [List.map_toArray, List.map_cons, List.map_nil]); first | done | rfl | (simp only [List.length_drop, lt_]; rfl)) ?_; (with_reducible refine (conf_Do.calls kj6 _ _ x5_1 ((rd_T24 l1 x7_1).f0) ((rd_T24 l1 x7_1).f1) ((rd_T24 l1 x7_1).f2) ((rd_T24 l1 x7_1).f3) t308 t311 _ ?side1 ?side2 A15.out).mono ?_); (case side1 => repeat (first | exact (Kd.S_reads' HO_5.out).2.2 | (with_reducible refine Kd.C_alloc ?_ _) | (with_reducible refine Kd.C_drewN ?_ _) | (with_reducible refine Kd.C_drew ?_))); (case side2 => exact (Kd.S_reads' HO_5.out).2.1); rintro e w45 ⟨v309, rfl, ho0, hb⟩; refine ⟨_, rfl, ?_⟩; have n0_ := am_ (Kd.S_elder' (by (with_reducible repeat (first | apply Kd.S_alloc | apply Kd.S_drewN | apply Kd.S_drew)); exact HO_5.out) (Kd.S_base ho0) hb); have n1_ := am_ (Kd.V_elder' (by (with_reducible repeat (first | apply Kd.V_alloc | apply Kd.V_drewN | apply Kd.V_drew)); exact HO_6.out) (Kd.S_base ho0) hb); have n2_ := am_ (Kd.S_lower (Kd.S_new' (Kd.S_newM (M := fun k_ => (w.heap.size ≤ k_)) ho0 (bs_ (by repeat (first | (with_reducible first | exact HB.out | apply ba_ | apply bn_ | apply bd_) | exact HB.out))) (fun k_ h_ => h_)) (Kd.S_lt (by (with_reducible repeat (first | apply Kd.S_alloc | apply Kd.S_drewN | apply Kd.S_drew)); exact HO_5.out))) (bs_ (by repeat (first | (with_reducible first | exact HB.out | apply ba_ | apply bn_ | apply bd_) | exact HB.out)))); have n3_ := am_ (bt_ (by repeat (first | (with_reducible first | exact HB.out | apply ba_ | apply bn_ | apply bd_) | exact HB.out)) hb); clear HO_5; clear HO_6; clear HB; have HO_5 := n0_; have HO_6 := n1_; have HO310 := n2_; have HB := n3_; clear n0_ n1_ n2_ n3_; (try clear hb); (try clear hb2); (try clear hk); (try clear hi); (try clear ho0); have p312 : 0 ≤ (x7_1 : Int) := od_ (by first | (with_reducible assumption) | assumption); have q312 : x7_1 < (l1.length : Int) := od_ (by first | (with_reducible assumption) | assumption); obtain ⟨ad312, e312, hx312_0, hx312_1, hx312_2, hx312_3⟩ := at_T24 HR1.out x7_1 p312 q312; obtain rfl : ad303 = ad312 := (by injection e312); replace hx312_0 := (HB.out.cell (cl_ w _ hx312_0)).trans hx312_0; replace hx312_1 := (HB.out.cell (cl_ w _ hx312_1)).trans hx312_1; replace hx312_2 := (HB.out.cell (cl_ w _ hx312_2)).trans hx312_2; replace hx312_3 := (HB.out.cell (cl_ w _ hx312_3)).trans hx312_3; replace p312 := eq_true p312; replace q312 := eq_true q312) | ((with_reducible refine gate_callee (f := 29) rfl ?_); refine goesL_ (some 57) rfl rfl Tryd.func29 (by kernel_rfl) rfl #[.slice Ao43 x6_1.length co43, .agg #[.int .i64 ((rd_T24 l1 x7_1).f0), .int .i64 ((rd_T24 l1 x7_1).f1), .int .u64 ((rd_T24 l1 x7_1).f2), .int .i64 ((rd_T24 l1 x7_1).f3)]] rfl (by (try simp only [List.map_toArray, List.map_cons, List.map_nil]); first | done | rfl | (simp only [List.length_drop, lt_]; rfl)) ?_; (with_reducible refine (catenaryref09_Do.calls kj6 (fun k_ => (((P0_ k_ ∨ w.heap.size ≤ k_) ∧ some k_ ≠ (.slice Ao41 x5_1.length co41 : Value).ownBlock) ∧ some k_ ≠ (v309 : Value).ownBlock)) _ _ x6_1 ((rd_T24 l1 x7_1).f0) ((rd_T24 l1 x7_1).f1) ((rd_T24 l1 x7_1).f2) ((rd_T24 l1 x7_1).f3) t313 t316 _ ?side1 A16.out).mono ?_); (case side1 => exact HO_6.out); rintro e w46 ⟨v314, rfl, ho0, hb⟩; refine ⟨_, rfl, ?_⟩; have n0_ := am_ (Kd.S_below (by (with_reducible repeat (first | apply Kd.S_alloc | apply Kd.S_drewN | apply Kd.S_drew)); exact HO_5.out) hb); have n1_ := am_ (Kd.V_below (by (with_reducible repeat (first | apply Kd.V_alloc | apply Kd.V_drewN | apply Kd.V_drew)); exact HO_6.out) hb); have n2_ := am_ (Kd.S_below (by (with_reducible repeat (first | apply Kd.S_alloc | apply Kd.S_drewN | apply Kd.S_drew)); exact HO310.out) hb); have n3_ := am_ (Kd.V_lower (Kd.V_mono (ok' := fun k_ => (P0_ k_ ∨ w.heap.size ≤ k_) ∧ some k_ ≠ (.slice Ao41 x5_1.length co41 : Value).ownBlock ∧ some k_ ≠ (v309 : Value).ownBlock) ho0 (fun k_ hk_ => ⟨Or.elim hk_ (fun hs_ => hs_.1.1) (fun hn_ => (.inr (Nat.le_trans (bs_ (by repeat (first | (with_reducible first | exact HB.out | apply ba_ | apply bn_ | apply bd_) | exact HB.out))) hn_))), Or.elim hk_ (fun hs_ => hs_.1.2) (fun hn_ => (Kd.fresh' (Kd.S_lt (by (with_reducible repeat (first | apply Kd.S_alloc | apply Kd.S_drewN | apply Kd.S_drew)); exact HO_5.out)) k_ hn_)), Or.elim hk_ (fun hs_ => hs_.2) (fun hn_ => (Kd.fresh' (Kd.S_lt (by (with_reducible repeat (first | apply Kd.S_alloc | apply Kd.S_drewN | apply Kd.S_drew)); exact HO310.out)) k_ hn_))⟩)) (bs_ (by repeat (first | (with_reducible first | exact HB.out | apply ba_ | apply bn_ | apply bd_) | exact HB.out)))); have n4_ := am_ (bt_ (by repeat (first | (with_reducible first | exact HB.out | apply ba_ | apply bn_ | apply bd_) | exact HB.out)) hb); clear HO_5; clear HO_6; clear HO310; clear HB; have HO_5 := n0_; have HO_6 := n1_; have HO310 := n2_; have HO315 := n3_; have HB := n4_; clear n0_ n1_ n2_ n3_ n4_; (try clear hb); (try clear hb2); (try clear hk); (try clear hi); (try clear ho0); obtain ⟨Ao47, co47, eo47⟩ := Kd.S_slice HO310.out; subst eo47; obtain ⟨Ao48, co48, eo48⟩ := Kd.V_slice HO315.out; subst eo48) | (go_at_call 30; (with_reducible refine (catenaryref09_SameAll.calls kj6 _ _ t308 _ _ t313 true _ ?side1 ?side2 ?side3 ?side4 A25.out).mono ?_); (case side1 => repeat (first | exact (Kd.S_reads' HO310.out).2.2 | (with_reducible refine Kd.C_alloc ?_ _) | (with_reducible refine Kd.C_drewN ?_ _) | (with_reducible refine Kd.C_drew ?_))); (case side2 => exact (Kd.S_reads' HO310.out).2.1); (case side3 => repeat (first | exact (Kd.V_reads' HO315.out).2.2 | (with_reducible refine Kd.C_alloc ?_ _) | (with_reducible refine Kd.C_drewN ?_ _) | (with_reducible refine Kd.C_drew ?_))); (case side4 => exact (Kd.V_reads' HO315.out).2.1); rintro e w49 ⟨rfl, hb⟩; have n0_ := am_ (Kd.S_below (by (with_reducible repeat (first | apply Kd.S_alloc | apply Kd.S_drewN | apply Kd.S_drew)); exact HO_5.out) hb); have n1_ := am_ (Kd.V_below (by (with_reducible repeat (first | apply Kd.V_alloc | apply Kd.V_drewN | apply Kd.V_drew)); exact HO_6.out) hb); have n2_ := am_ (Kd.S_below (by (with_reducible repeat (first | apply Kd.S_alloc | apply Kd.S_drewN | apply Kd.S_drew)); exact HO310.out) hb); have n3_ := am_ (Kd.V_below (by (with_reducible repeat (first | apply Kd.V_alloc | apply Kd.V_drewN | apply Kd.V_drew)); exact HO315.out) hb); have n4_ := am_ (bt_ (by repeat (first | (with_reducible first | exact HB.out | apply ba_ | apply bn_ | apply bd_) | exact HB.out)) hb); clear HO_5; clear HO_6; clear HO310; clear HO315; clear HB; have HO_5 := n0_; have HO_6 := n1_; have HO310 := n2_; have HO315 := n3_; have HB := n4_; clear n0_ n1_ n2_ n3_ n4_; (try clear hb); (try clear hb2); (try clear hk); (try clear hi)) | (go_at_call 30; (with_reducible refine (catenaryref09_SameAll.calls kj6 _ _ x5_1 _ _ x6_1 false _ ?side1 ?side2 ?side3 ?side4 A27.out).mono ?_); (case side1 => repeat (first | exact (Kd.S_reads' HO_5.out).2.2 | (with_reducible refine Kd.C_alloc ?_ _) | (with_reducible refine Kd.C_drewN ?_ _) | (with_reducible refine Kd.C_drew ?_))); (case side2 => exact (Kd.S_reads' HO_5.out).2.1); (case side3 => repeat (first | exact (Kd.V_reads' HO_6.out).2.2 | (with_reducible refine Kd.C_alloc ?_ _) | (with_reducible refine Kd.C_drewN ?_ _) | (with_reducible refine Kd.C_drew ?_))); (case side4 => exact (Kd.V_reads' HO_6.out).2.1); rintro e w50 ⟨rfl, hb⟩; have n0_ := am_ (Kd.S_below (by (with_reducible repeat (first | apply Kd.S_alloc | apply Kd.S_drewN | apply Kd.S_drew)); exact HO_5.out) hb); have n1_ := am_ (Kd.V_below (by (with_reducible repeat (first | apply Kd.V_alloc | apply Kd.V_drewN | apply Kd.V_drew)); exact HO_6.out) hb); have n2_ := am_ (Kd.S_below (by (with_reducible repeat (first | apply Kd.S_alloc | apply Kd.S_drewN | apply Kd.S_drew)); exact HO310.out) hb); have n3_ := am_ (Kd.V_below (by (with_reducible repeat (first | apply Kd.V_alloc | apply Kd.V_drewN | apply Kd.V_drew)); exact HO315.out) hb); have n4_ := am_ (bt_ (by repeat (first | (with_reducible first | exact HB.out | apply ba_ | apply bn_ | apply bd_) | exact HB.out)) hb); clear HO_5; clear HO_6; clear HO310; clear HO315; clear HB; have HO_5 := n0_; have HO_6 := n1_; have HO310 := n2_; have HO315 := n3_; have HB := n4_; clear n0_ n1_ n2_ n3_ n4_; (try clear hb); (try clear hb2); (try clear hk); (try clear hi)))
             go_ret
             exact ⟨by first | rfl | (simp [errW_none, errW_some] <;> rfl) | (simp [*, errW_none, errW_some] <;> rfl), by repeat (first | (with_reducible first | exact HB.out | apply ba_ | apply bn_ | apply bd_) | exact HB.out)⟩
           ·replace c26 := Bool.eq_false_iff.mpr c26
            subst c26
            have H1 : (some false) = some r := by rw [if_neg (show ¬ (false = true) by decide)] at H; exact H
            clear H
            have H := H1
            clear H1
            obtain rfl := Option.some.inj H
            try go_wp2
            have n0_ := am_ (Kd.S_drew HO_5.out)
            have n1_ := am_ (Kd.V_drew HO_6.out)
            have n2_ := am_ (bd_ HB.out)
            clear HO_5
            clear HO_6
            clear HB
            have HO_5 := n0_
            have HO_6 := n1_
            have HB := n2_
            clear n0_ n1_ n2_
            have p303 : 0 ≤ (x7_1 : Int) := od_ (by first | (with_reducible assumption) | assumption)
            have q303 : x7_1 < (l1.length : Int) := od_ (by first | (with_reducible assumption) | assumption)
            obtain ⟨ad303, e303, hx303_0, hx303_1, hx303_2, hx303_3⟩ := at_T24 HR1.out x7_1 p303 q303
            have hw303_3 := hx303_3
            have hw303_2 := hx303_2
            have hw303_1 := hx303_1
            have hw303_0 := hx303_0
            cases e303
            replace hx303_0 := (HB.out.cell (cl_ w _ hx303_0)).trans hx303_0
            replace hx303_1 := (HB.out.cell (cl_ w _ hx303_1)).trans hx303_1
            replace hx303_2 := (HB.out.cell (cl_ w _ hx303_2)).trans hx303_2
            replace hx303_3 := (HB.out.cell (cl_ w _ hx303_3)).trans hx303_3
            replace p303 := eq_true p303
            replace q303 := eq_true q303
            have p305 : 0 ≤ (x7_1 : Int) := od_ (by first | (with_reducible assumption) | assumption)
            have q305 : x7_1 < (l1.length : Int) := od_ (by first | (with_reducible assumption) | assumption)
            obtain ⟨ad305, e305, hx305_0, hx305_1, hx305_2, hx305_3⟩ := at_T24 HR1.out x7_1 p305 q305
            have hw305_3 := hx305_3
            have hw305_2 := hx305_2
            have hw305_1 := hx305_1
            have hw305_0 := hx305_0
            obtain rfl : ad303 = ad305 := (by injection e305)
            replace hx305_0 := (HB.out.cell (cl_ w _ hx305_0)).trans hx305_0
            replace hx305_1 := (HB.out.cell (cl_ w _ hx305_1)).trans hx305_1
            replace hx305_2 := (HB.out.cell (cl_ w _ hx305_2)).trans hx305_2
            replace hx305_3 := (HB.out.cell (cl_ w _ hx305_3)).trans hx305_3
            replace p305 := eq_true p305
            replace q305 := eq_true q305
            obtain ⟨Ao52, co52, eo52⟩ := Kd.S_slice HO_5.out
            (first | subst eo52 | (injection eo52 with f1_ f2_ f3_; have f4_ := f1_.symm; have f5_ := f3_.symm; clear f1_ f2_ f3_; subst f4_; subst f5_))
            refine start_ (n := 13) (S := fun w' => w'.cell? (ad303.add ((x7_1).toNat * 4)) = some (.int .i64 ((rd_T24 l1 x7_1).f0)) ∧ w'.cell? ⟨(ad303.add ((x7_1).toNat * 4)).block, (ad303.add ((x7_1).toNat * 4)).off + 1, none⟩ = some (.int .i64 ((rd_T24 l1 x7_1).f1)) ∧ w'.cell? ⟨(ad303.add ((x7_1).toNat * 4)).block, (ad303.add ((x7_1).toNat * 4)).off + 2, none⟩ = some (.int .u64 ((rd_T24 l1 x7_1).f2)) ∧ w'.cell? ⟨(ad303.add ((x7_1).toNat * 4)).block, (ad303.add ((x7_1).toNat * 4)).off + 3, none⟩ = some (.int .i64 ((rd_T24 l1 x7_1).f3)) ∧ w'.cell? (ad303.add ((x7_1).toNat * 4)) = some (.int .i64 ((rd_T24 l1 x7_1).f0)) ∧ w'.cell? ⟨(ad303.add ((x7_1).toNat * 4)).block, (ad303.add ((x7_1).toNat * 4)).off + 1, none⟩ = some (.int .i64 ((rd_T24 l1 x7_1).f1)) ∧ w'.cell? ⟨(ad303.add ((x7_1).toNat * 4)).block, (ad303.add ((x7_1).toNat * 4)).off + 2, none⟩ = some (.int .u64 ((rd_T24 l1 x7_1).f2)) ∧ w'.cell? ⟨(ad303.add ((x7_1).toNat * 4)).block, (ad303.add ((x7_1).toNat * 4)).off + 3, none⟩ = some (.int .i64 ((rd_T24 l1 x7_1).f3))) (ds := []) #[false, false, false, false, false, false, false, false, false, false, false, false, false] (by kernel_rfl) rfl rfl ⟨((HB.out.cell (cl_ w _ hw303_0)).trans hw303_0), ((HB.out.cell (cl_ w _ hw303_1)).trans hw303_1), ((HB.out.cell (cl_ w _ hw303_2)).trans hw303_2), ((HB.out.cell (cl_ w _ hw303_3)).trans hw303_3), ((HB.out.cell (cl_ w _ hw305_0)).trans hw305_0), ((HB.out.cell (cl_ w _ hw305_1)).trans hw305_1), ((HB.out.cell (cl_ w _ hw305_2)).trans hw305_2), ((HB.out.cell (cl_ w _ hw305_3)).trans hw305_3)⟩ (fun hHeld => ?_); refine with_tabW catenarylaw09_ConfDoes.tab8 catenarylaw09_ConfDoes.bits8 (fun HT_ HW_ => ?_)
            generalize wc.drew = w51 at HO_5 HO_6 HB hx303_0 hx303_1 hx303_2 hx303_3 hx305_0 hx305_1 hx305_2 hx305_3 hHeld ⊢
            refine pure_ (i := 0) (N := some 29) (v := ?_) (a' := ?_) #[true, false, false, false, false, false, false, false, false, false, false, false, false] rfl rfl (any_of HT_.out (by kernel_rfl)) (fun _ _ _ h => h) (Or.inl ⟨by rfl, ?_⟩) ?_ ?_
            rotate_left
            ·intro w'
             go_simp
             with_reducible rfl
            rotate_left
            ·simp only [Act.put, sa_, sz_, ss_, i64_w, i32_w]
             rfl
            refine pure_ (i := 1) (N := some 30) (v := ?_) (a' := ?_) #[true, true, false, false, false, false, false, false, false, false, false, false, false] rfl rfl (any_of HT_.out (by kernel_rfl)) (fun _ _ _ h => h) (Or.inl ⟨by rfl, ?_⟩) ?_ ?_
            rotate_left
            ·intro w'
             go_simp
             with_reducible rfl
            rotate_left
            ·simp only [Act.put, sa_, sz_, ss_, i64_w, i32_w]
             rfl
            refine pure_ (i := 2) (N := some 31) (v := ?_) (a' := ?_) #[true, true, true, false, false, false, false, false, false, false, false, false, false] rfl rfl (any_of HT_.out (by kernel_rfl)) (fun _ _ _ h => h) (Or.inl ⟨by rfl, ?_⟩) ?_ ?_
            rotate_left
            ·intro w'
             go_simp
             with_reducible rfl
            rotate_left
            ·simp only [Act.put, sa_, sz_, ss_, i64_w, i32_w]
             rfl
            refine pure_ (i := 3) (N := some 32) (v := ?_) (a' := ?_) #[true, true, true, true, false, false, false, false, false, false, false, false, false] rfl rfl (any_of HT_.out (by kernel_rfl)) (fun _ _ _ h => h) (Or.inl ⟨by rfl, ?_⟩) ?_ ?_
            rotate_left
            ·intro w'
             go_simp
             with_reducible rfl
            rotate_left
            ·simp only [Act.put, sa_, sz_, ss_, i64_w, i32_w]
             rfl
            refine pure_ (i := 6) (N := some 35) (v := ?_) (a' := ?_) #[true, true, true, true, false, false, true, false, false, false, false, false, false] rfl rfl (any_of HT_.out (by kernel_rfl)) (fun _ _ _ h => h) (Or.inl ⟨by rfl, ?_⟩) ?_ ?_
            rotate_left
            ·intro w'
             go_simp
             with_reducible rfl
            rotate_left
            ·simp only [Act.put, sa_, sz_, ss_, i64_w, i32_w]
             rfl
            refine pure_ (i := 7) (N := some 36) (v := ?_) (a' := ?_) #[true, true, true, true, false, false, true, true, false, false, false, false, false] rfl rfl (any_of HT_.out (by kernel_rfl)) (fun _ _ _ h => h) (Or.inl ⟨by rfl, ?_⟩) ?_ ?_
            rotate_left
            ·intro w'
             go_simp
             with_reducible rfl
            rotate_left
            ·simp only [Act.put, sa_, sz_, ss_, i64_w, i32_w]
             rfl
            refine pure_ (i := 8) (N := some 37) (v := ?_) (a' := ?_) #[true, true, true, true, false, false, true, true, true, false, false, false, false] rfl rfl (any_of HT_.out (by kernel_rfl)) (fun _ _ _ h => h) (Or.inl ⟨by rfl, ?_⟩) ?_ ?_
            rotate_left
            ·intro w'
             go_simp
             with_reducible rfl
            rotate_left
            ·simp only [Act.put, sa_, sz_, ss_, i64_w, i32_w]
             rfl
            refine pure_ (i := 9) (N := some 38) (v := ?_) (a' := ?_) #[true, true, true, true, false, false, true, true, true, true, false, false, false] rfl rfl (any_of HT_.out (by kernel_rfl)) (fun _ _ _ h => h) (Or.inl ⟨by rfl, ?_⟩) ?_ ?_
            rotate_left
            ·intro w'
             go_simp
             with_reducible rfl
            rotate_left
            ·simp only [Act.put, sa_, sz_, ss_, i64_w, i32_w]
             rfl
            refine take_ (i := 4) (N := some 33) (v := ?_) (a' := ?_) #[true, true, true, true, true, false, true, true, true, true, false, false, false] rfl rfl (take_ofW HT_.out HW_.out (by kernel_rfl)) (fun _ _ _ h => h) (Or.inl ⟨by rfl, ?_⟩) hHeld ?_ ?_
            rotate_left
            ·rintro w' ⟨s0, s1, s2, s3, s4, s5, s6, s7⟩
             go_simp
             with_reducible rfl
            rotate_left
            ·simp only [Act.put, sa_, sz_, ss_, i64_w, i32_w]
             rfl
            refine take_ (i := 10) (N := some 39) (v := ?_) (a' := ?_) #[true, true, true, true, true, false, true, true, true, true, true, false, false] rfl rfl (take_ofW HT_.out HW_.out (by kernel_rfl)) (fun _ _ _ h => h) (Or.inl ⟨by rfl, ?_⟩) hHeld ?_ ?_
            rotate_left
            ·rintro w' ⟨s0, s1, s2, s3, s4, s5, s6, s7⟩
             go_simp
             with_reducible rfl
            rotate_left
            ·simp only [Act.put, sa_, sz_, ss_, i64_w, i32_w]
             rfl
            refine one_ (i := 5) (N := some 34) #[true, true, true, true, true, true, true, true, true, true, true, false, false] rfl rfl (one_of HT_.out (by kernel_rfl)) (by decide) (fun K hK => ?_)
            refine goes_ Tryd.func26 (by kernel_rfl) rfl #[.slice Ao52 x5_1.length co52, .agg #[.int .i64 ((rd_T24 l1 x7_1).f0), .int .i64 ((rd_T24 l1 x7_1).f1), .int .u64 ((rd_T24 l1 x7_1).f2), .int .i64 ((rd_T24 l1 x7_1).f3)]] (by rfl) rfl rfl (by (try simp only [List.map_toArray, List.map_cons, List.map_nil]); first | done | rfl | (simp only [List.length_drop, lt_]; rfl)) ?_
            with_reducible refine (conf_Can.calls kj6 _ _ x5_1 ((rd_T24 l1 x7_1).f0) ((rd_T24 l1 x7_1).f1) ((rd_T24 l1 x7_1).f2) ((rd_T24 l1 x7_1).f3) t304 _ ?side1 ?side2 A12.out).mono ?_
            (case side1 => repeat (first | exact (Kd.S_reads' HO_5.out).2.2 | (with_reducible refine Kd.C_alloc ?_ _) | (with_reducible refine Kd.C_drewN ?_ _) | (with_reducible refine Kd.C_drew ?_)))
            (case side2 => exact (Kd.S_reads' HO_5.out).2.1)
            rintro e w53 ⟨rfl, hb⟩
            refine ⟨_, rfl, ?_⟩
            have n0_ := am_ (Kd.S_below (by (with_reducible repeat (first | apply Kd.S_alloc | apply Kd.S_drewN | apply Kd.S_drew)); exact HO_5.out) hb)
            have n1_ := am_ (Kd.V_below (by (with_reducible repeat (first | apply Kd.V_alloc | apply Kd.V_drewN | apply Kd.V_drew)); exact HO_6.out) hb)
            have n2_ := am_ (bt_ (by repeat (first | (with_reducible first | exact HB.out | apply ba_ | apply bn_ | apply bd_) | exact HB.out)) hb)
            clear HO_5
            clear HO_6
            clear HB
            have HO_5 := n0_
            have HO_6 := n1_
            have HB := n2_
            clear n0_ n1_ n2_
            (try clear hb)
            (try clear hb2)
            (try clear hk)
            (try clear hi)
            obtain ⟨Ao54, co54, eo54⟩ := Kd.V_slice HO_6.out
            (first | subst eo54 | (injection eo54 with f1_ f2_ f3_; have f4_ := f1_.symm; have f5_ := f3_.symm; clear f1_ f2_ f3_; subst f4_; subst f5_))
            refine hK.out _ _ ⟨((HB.out.cell (cl_ w _ hw303_0)).trans hw303_0), ((HB.out.cell (cl_ w _ hw303_1)).trans hw303_1), ((HB.out.cell (cl_ w _ hw303_2)).trans hw303_2), ((HB.out.cell (cl_ w _ hw303_3)).trans hw303_3), ((HB.out.cell (cl_ w _ hw305_0)).trans hw305_0), ((HB.out.cell (cl_ w _ hw305_1)).trans hw305_1), ((HB.out.cell (cl_ w _ hw305_2)).trans hw305_2), ((HB.out.cell (cl_ w _ hw305_3)).trans hw305_3)⟩ (fun hHeld => ?_)
            clear hK K
            refine norm_ (a' := ?_) ?_ ?_
            rotate_left
            ·show Act.put _ (some 34) _ = _
             simp only [Act.put, sa_, sz_, ss_, i64_w, i32_w]
             rfl
            refine one_ (i := 11) (N := some 40) #[true, true, true, true, true, true, true, true, true, true, true, true, false] rfl rfl (one_of HT_.out (by kernel_rfl)) (by decide) (fun K hK => ?_)
            refine goes_ Tryd.func27 (by kernel_rfl) rfl #[.slice Ao54 x6_1.length co54, .agg #[.int .i64 ((rd_T24 l1 x7_1).f0), .int .i64 ((rd_T24 l1 x7_1).f1), .int .u64 ((rd_T24 l1 x7_1).f2), .int .i64 ((rd_T24 l1 x7_1).f3)]] (by rfl) rfl rfl (by (try simp only [List.map_toArray, List.map_cons, List.map_nil]); first | done | rfl | (simp only [List.length_drop, lt_]; rfl)) ?_
            with_reducible refine (catenaryref09_Can.calls kj6 _ _ x6_1 ((rd_T24 l1 x7_1).f0) ((rd_T24 l1 x7_1).f1) ((rd_T24 l1 x7_1).f2) ((rd_T24 l1 x7_1).f3) t306 _ ?side1 ?side2 A13.out).mono ?_
            (case side1 => repeat (first | exact (Kd.V_reads' HO_6.out).2.2 | (with_reducible refine Kd.C_alloc ?_ _) | (with_reducible refine Kd.C_drewN ?_ _) | (with_reducible refine Kd.C_drew ?_)))
            (case side2 => exact (Kd.V_reads' HO_6.out).2.1)
            rintro e w55 ⟨rfl, hb⟩
            refine ⟨_, rfl, ?_⟩
            have n0_ := am_ (Kd.S_below (by (with_reducible repeat (first | apply Kd.S_alloc | apply Kd.S_drewN | apply Kd.S_drew)); exact HO_5.out) hb)
            have n1_ := am_ (Kd.V_below (by (with_reducible repeat (first | apply Kd.V_alloc | apply Kd.V_drewN | apply Kd.V_drew)); exact HO_6.out) hb)
            have n2_ := am_ (bt_ (by repeat (first | (with_reducible first | exact HB.out | apply ba_ | apply bn_ | apply bd_) | exact HB.out)) hb)
            clear HO_5
            clear HO_6
            clear HB
            have HO_5 := n0_
            have HO_6 := n1_
            have HB := n2_
            clear n0_ n1_ n2_
            (try clear hb)
            (try clear hb2)
            (try clear hk)
            (try clear hi)
            refine hK.out _ _ ⟨((HB.out.cell (cl_ w _ hw303_0)).trans hw303_0), ((HB.out.cell (cl_ w _ hw303_1)).trans hw303_1), ((HB.out.cell (cl_ w _ hw303_2)).trans hw303_2), ((HB.out.cell (cl_ w _ hw303_3)).trans hw303_3), ((HB.out.cell (cl_ w _ hw305_0)).trans hw305_0), ((HB.out.cell (cl_ w _ hw305_1)).trans hw305_1), ((HB.out.cell (cl_ w _ hw305_2)).trans hw305_2), ((HB.out.cell (cl_ w _ hw305_3)).trans hw305_3)⟩ (fun hHeld => ?_)
            clear hK K
            refine norm_ (a' := ?_) ?_ ?_
            rotate_left
            ·show Act.put _ (some 40) _ = _
             simp only [Act.put, sa_, sz_, ss_, i64_w, i32_w]
             rfl
            refine pure_ (i := 12) (N := some 41) (v := ?_) (a' := ?_) #[true, true, true, true, true, true, true, true, true, true, true, true, true] rfl rfl (any_of HT_.out (by kernel_rfl)) (fun _ _ _ h => h) (Or.inl ⟨by rfl, ?_⟩) ?_ ?_
            rotate_left
            ·intro w'
             go_simp
             with_reducible rfl
            rotate_left
            ·simp only [Act.put, sa_, sz_, ss_, i64_w, i32_w]
             rfl
            refine done_ (done_of HT_.out (by kernel_rfl)) ?_
            have p307 : 0 ≤ (x7_1 : Int) := od_ (by first | (with_reducible assumption) | assumption)
            have q307 : x7_1 < (l1.length : Int) := od_ (by first | (with_reducible assumption) | assumption)
            obtain ⟨ad307, e307, hx307_0, hx307_1, hx307_2, hx307_3⟩ := at_T24 HR1.out x7_1 p307 q307
            obtain rfl : ad303 = ad307 := (by injection e307)
            replace hx307_0 := (HB.out.cell (cl_ w _ hx307_0)).trans hx307_0
            replace hx307_1 := (HB.out.cell (cl_ w _ hx307_1)).trans hx307_1
            replace hx307_2 := (HB.out.cell (cl_ w _ hx307_2)).trans hx307_2
            replace hx307_3 := (HB.out.cell (cl_ w _ hx307_3)).trans hx307_3
            replace p307 := eq_true p307
            replace q307 := eq_true q307
            try go_wp2_with (first | ((with_reducible refine gate_callee (f := 28) rfl ?_); refine goesL_ (some 48) rfl rfl Tryd.func28 (by kernel_rfl) rfl #[.slice Ao52 x5_1.length co52, .agg #[.int .i64 ((rd_T24 l1 x7_1).f0), .int .i64 ((rd_T24 l1 x7_1).f1), .int .u64 ((rd_T24 l1 x7_1).f2), .int .i64 ((rd_T24 l1 x7_1).f3)]] rfl (by (try simp only [List.map_toArray, List.map_cons, List.map_nil]); first | done | rfl | (simp only [List.length_drop, lt_]; rfl)) ?_; (with_reducible refine (conf_Do.calls kj6 _ _ x5_1 ((rd_T24 l1 x7_1).f0) ((rd_T24 l1 x7_1).f1) ((rd_T24 l1 x7_1).f2) ((rd_T24 l1 x7_1).f3) t308 t311 _ ?side1 ?side2 A15.out).mono ?_); (case side1 => repeat (first | exact (Kd.S_reads' HO_5.out).2.2 | (with_reducible refine Kd.C_alloc ?_ _) | (with_reducible refine Kd.C_drewN ?_ _) | (with_reducible refine Kd.C_drew ?_))); (case side2 => exact (Kd.S_reads' HO_5.out).2.1); rintro e w56 ⟨v309, rfl, ho0, hb⟩; refine ⟨_, rfl, ?_⟩; have n0_ := am_ (Kd.S_elder' (by (with_reducible repeat (first | apply Kd.S_alloc | apply Kd.S_drewN | apply Kd.S_drew)); exact HO_5.out) (Kd.S_base ho0) hb); have n1_ := am_ (Kd.V_elder' (by (with_reducible repeat (first | apply Kd.V_alloc | apply Kd.V_drewN | apply Kd.V_drew)); exact HO_6.out) (Kd.S_base ho0) hb); have n2_ := am_ (Kd.S_lower (Kd.S_new' (Kd.S_newM (M := fun k_ => (w.heap.size ≤ k_)) ho0 (bs_ (by repeat (first | (with_reducible first | exact HB.out | apply ba_ | apply bn_ | apply bd_) | exact HB.out))) (fun k_ h_ => h_)) (Kd.S_lt (by (with_reducible repeat (first | apply Kd.S_alloc | apply Kd.S_drewN | apply Kd.S_drew)); exact HO_5.out))) (bs_ (by repeat (first | (with_reducible first | exact HB.out | apply ba_ | apply bn_ | apply bd_) | exact HB.out)))); have n3_ := am_ (bt_ (by repeat (first | (with_reducible first | exact HB.out | apply ba_ | apply bn_ | apply bd_) | exact HB.out)) hb); clear HO_5; clear HO_6; clear HB; have HO_5 := n0_; have HO_6 := n1_; have HO310 := n2_; have HB := n3_; clear n0_ n1_ n2_ n3_; (try clear hb); (try clear hb2); (try clear hk); (try clear hi); (try clear ho0); have p312 : 0 ≤ (x7_1 : Int) := od_ (by first | (with_reducible assumption) | assumption); have q312 : x7_1 < (l1.length : Int) := od_ (by first | (with_reducible assumption) | assumption); obtain ⟨ad312, e312, hx312_0, hx312_1, hx312_2, hx312_3⟩ := at_T24 HR1.out x7_1 p312 q312; obtain rfl : ad303 = ad312 := (by injection e312); replace hx312_0 := (HB.out.cell (cl_ w _ hx312_0)).trans hx312_0; replace hx312_1 := (HB.out.cell (cl_ w _ hx312_1)).trans hx312_1; replace hx312_2 := (HB.out.cell (cl_ w _ hx312_2)).trans hx312_2; replace hx312_3 := (HB.out.cell (cl_ w _ hx312_3)).trans hx312_3; replace p312 := eq_true p312; replace q312 := eq_true q312) | ((with_reducible refine gate_callee (f := 29) rfl ?_); refine goesL_ (some 57) rfl rfl Tryd.func29 (by kernel_rfl) rfl #[.slice Ao54 x6_1.length co54, .agg #[.int .i64 ((rd_T24 l1 x7_1).f0), .int .i64 ((rd_T24 l1 x7_1).f1), .int .u64 ((rd_T24 l1 x7_1).f2), .int .i64 ((rd_T24 l1 x7_1).f3)]] rfl (by (try simp only [List.map_toArray, List.map_cons, List.map_nil]); first | done | rfl | (simp only [List.length_drop, lt_]; rfl)) ?_; (with_reducible refine (catenaryref09_Do.calls kj6 (fun k_ => (((P0_ k_ ∨ w.heap.size ≤ k_) ∧ some k_ ≠ (.slice Ao52 x5_1.length co52 : Value).ownBlock) ∧ some k_ ≠ (v309 : Value).ownBlock)) _ _ x6_1 ((rd_T24 l1 x7_1).f0) ((rd_T24 l1 x7_1).f1) ((rd_T24 l1 x7_1).f2) ((rd_T24 l1 x7_1).f3) t313 t316 _ ?side1 A16.out).mono ?_); (case side1 => exact HO_6.out); rintro e w57 ⟨v314, rfl, ho0, hb⟩; refine ⟨_, rfl, ?_⟩; have n0_ := am_ (Kd.S_below (by (with_reducible repeat (first | apply Kd.S_alloc | apply Kd.S_drewN | apply Kd.S_drew)); exact HO_5.out) hb); have n1_ := am_ (Kd.V_below (by (with_reducible repeat (first | apply Kd.V_alloc | apply Kd.V_drewN | apply Kd.V_drew)); exact HO_6.out) hb); have n2_ := am_ (Kd.S_below (by (with_reducible repeat (first | apply Kd.S_alloc | apply Kd.S_drewN | apply Kd.S_drew)); exact HO310.out) hb); have n3_ := am_ (Kd.V_lower (Kd.V_mono (ok' := fun k_ => (P0_ k_ ∨ w.heap.size ≤ k_) ∧ some k_ ≠ (.slice Ao52 x5_1.length co52 : Value).ownBlock ∧ some k_ ≠ (v309 : Value).ownBlock) ho0 (fun k_ hk_ => ⟨Or.elim hk_ (fun hs_ => hs_.1.1) (fun hn_ => (.inr (Nat.le_trans (bs_ (by repeat (first | (with_reducible first | exact HB.out | apply ba_ | apply bn_ | apply bd_) | exact HB.out))) hn_))), Or.elim hk_ (fun hs_ => hs_.1.2) (fun hn_ => (Kd.fresh' (Kd.S_lt (by (with_reducible repeat (first | apply Kd.S_alloc | apply Kd.S_drewN | apply Kd.S_drew)); exact HO_5.out)) k_ hn_)), Or.elim hk_ (fun hs_ => hs_.2) (fun hn_ => (Kd.fresh' (Kd.S_lt (by (with_reducible repeat (first | apply Kd.S_alloc | apply Kd.S_drewN | apply Kd.S_drew)); exact HO310.out)) k_ hn_))⟩)) (bs_ (by repeat (first | (with_reducible first | exact HB.out | apply ba_ | apply bn_ | apply bd_) | exact HB.out)))); have n4_ := am_ (bt_ (by repeat (first | (with_reducible first | exact HB.out | apply ba_ | apply bn_ | apply bd_) | exact HB.out)) hb); clear HO_5; clear HO_6; clear HO310; clear HB; have HO_5 := n0_; have HO_6 := n1_; have HO310 := n2_; have HO315 := n3_; have HB := n4_; clear n0_ n1_ n2_ n3_ n4_; (try clear hb); (try clear hb2); (try clear hk); (try clear hi); (try clear ho0); obtain ⟨Ao58, co58, eo58⟩ := Kd.S_slice HO310.out; subst eo58; obtain ⟨Ao59, co59, eo59⟩ := Kd.V_slice HO315.out; subst eo59) | (go_at_call 30; (with_reducible refine (catenaryref09_SameAll.calls kj6 _ _ t308 _ _ t313 false _ ?side1 ?side2 ?side3 ?side4 A25.out).mono ?_); (case side1 => repeat (first | exact (Kd.S_reads' HO310.out).2.2 | (with_reducible refine Kd.C_alloc ?_ _) | (with_reducible refine Kd.C_drewN ?_ _) | (with_reducible refine Kd.C_drew ?_))); (case side2 => exact (Kd.S_reads' HO310.out).2.1); (case side3 => repeat (first | exact (Kd.V_reads' HO315.out).2.2 | (with_reducible refine Kd.C_alloc ?_ _) | (with_reducible refine Kd.C_drewN ?_ _) | (with_reducible refine Kd.C_drew ?_))); (case side4 => exact (Kd.V_reads' HO315.out).2.1); rintro e w60 ⟨rfl, hb⟩; have n0_ := am_ (Kd.S_below (by (with_reducible repeat (first | apply Kd.S_alloc | apply Kd.S_drewN | apply Kd.S_drew)); exact HO_5.out) hb); have n1_ := am_ (Kd.V_below (by (with_reducible repeat (first | apply Kd.V_alloc | apply Kd.V_drewN | apply Kd.V_drew)); exact HO_6.out) hb); have n2_ := am_ (Kd.S_below (by (with_reducible repeat (first | apply Kd.S_alloc | apply Kd.S_drewN | apply Kd.S_drew)); exact HO310.out) hb); have n3_ := am_ (Kd.V_below (by (with_reducible repeat (first | apply Kd.V_alloc | apply Kd.V_drewN | apply Kd.V_drew)); exact HO315.out) hb); have n4_ := am_ (bt_ (by repeat (first | (with_reducible first | exact HB.out | apply ba_ | apply bn_ | apply bd_) | exact HB.out)) hb); clear HO_5; clear HO_6; clear HO310; clear HO315; clear HB; have HO_5 := n0_; have HO_6 := n1_; have HO310 := n2_; have HO315 := n3_; have HB := n4_; clear n0_ n1_ n2_ n3_ n4_; (try clear hb); (try clear hb2); (try clear hk); (try clear hi)))
            go_ret
            exact ⟨by first | rfl | (simp [errW_none, errW_some] <;> rfl) | (simp [*, errW_none, errW_some] <;> rfl), by repeat (first | (with_reducible first | exact HB.out | apply ba_ | apply bn_ | apply bd_) | exact HB.out)⟩
         ·rw [if_neg c14] at H
          have c14b0 : (t304 == t306) = false := beq_eq_false_iff_ne.mpr c14
          have c14b1 : (t304 != t306) = true := bne_iff_ne.mpr c14
          obtain rfl := Option.some.inj H
          try go_wp2
          have n0_ := am_ (Kd.S_drew HO_5.out)
          have n1_ := am_ (Kd.V_drew HO_6.out)
          have n2_ := am_ (bd_ HB.out)
          clear HO_5
          clear HO_6
          clear HB
          have HO_5 := n0_
          have HO_6 := n1_
          have HB := n2_
          clear n0_ n1_ n2_
          have p303 : 0 ≤ (x7_1 : Int) := od_ (by first | (with_reducible assumption) | assumption)
          have q303 : x7_1 < (l1.length : Int) := od_ (by first | (with_reducible assumption) | assumption)
          obtain ⟨ad303, e303, hx303_0, hx303_1, hx303_2, hx303_3⟩ := at_T24 HR1.out x7_1 p303 q303
          have hw303_3 := hx303_3
          have hw303_2 := hx303_2
          have hw303_1 := hx303_1
          have hw303_0 := hx303_0
          cases e303
          replace hx303_0 := (HB.out.cell (cl_ w _ hx303_0)).trans hx303_0
          replace hx303_1 := (HB.out.cell (cl_ w _ hx303_1)).trans hx303_1
          replace hx303_2 := (HB.out.cell (cl_ w _ hx303_2)).trans hx303_2
          replace hx303_3 := (HB.out.cell (cl_ w _ hx303_3)).trans hx303_3
          replace p303 := eq_true p303
          replace q303 := eq_true q303
          have p305 : 0 ≤ (x7_1 : Int) := od_ (by first | (with_reducible assumption) | assumption)
          have q305 : x7_1 < (l1.length : Int) := od_ (by first | (with_reducible assumption) | assumption)
          obtain ⟨ad305, e305, hx305_0, hx305_1, hx305_2, hx305_3⟩ := at_T24 HR1.out x7_1 p305 q305
          have hw305_3 := hx305_3
          have hw305_2 := hx305_2
          have hw305_1 := hx305_1
          have hw305_0 := hx305_0
          obtain rfl : ad303 = ad305 := (by injection e305)
          replace hx305_0 := (HB.out.cell (cl_ w _ hx305_0)).trans hx305_0
          replace hx305_1 := (HB.out.cell (cl_ w _ hx305_1)).trans hx305_1
          replace hx305_2 := (HB.out.cell (cl_ w _ hx305_2)).trans hx305_2
          replace hx305_3 := (HB.out.cell (cl_ w _ hx305_3)).trans hx305_3
          replace p305 := eq_true p305
          replace q305 := eq_true q305
          obtain ⟨Ao62, co62, eo62⟩ := Kd.S_slice HO_5.out
          (first | subst eo62 | (injection eo62 with f1_ f2_ f3_; have f4_ := f1_.symm; have f5_ := f3_.symm; clear f1_ f2_ f3_; subst f4_; subst f5_))
          refine start_ (n := 13) (S := fun w' => w'.cell? (ad303.add ((x7_1).toNat * 4)) = some (.int .i64 ((rd_T24 l1 x7_1).f0)) ∧ w'.cell? ⟨(ad303.add ((x7_1).toNat * 4)).block, (ad303.add ((x7_1).toNat * 4)).off + 1, none⟩ = some (.int .i64 ((rd_T24 l1 x7_1).f1)) ∧ w'.cell? ⟨(ad303.add ((x7_1).toNat * 4)).block, (ad303.add ((x7_1).toNat * 4)).off + 2, none⟩ = some (.int .u64 ((rd_T24 l1 x7_1).f2)) ∧ w'.cell? ⟨(ad303.add ((x7_1).toNat * 4)).block, (ad303.add ((x7_1).toNat * 4)).off + 3, none⟩ = some (.int .i64 ((rd_T24 l1 x7_1).f3)) ∧ w'.cell? (ad303.add ((x7_1).toNat * 4)) = some (.int .i64 ((rd_T24 l1 x7_1).f0)) ∧ w'.cell? ⟨(ad303.add ((x7_1).toNat * 4)).block, (ad303.add ((x7_1).toNat * 4)).off + 1, none⟩ = some (.int .i64 ((rd_T24 l1 x7_1).f1)) ∧ w'.cell? ⟨(ad303.add ((x7_1).toNat * 4)).block, (ad303.add ((x7_1).toNat * 4)).off + 2, none⟩ = some (.int .u64 ((rd_T24 l1 x7_1).f2)) ∧ w'.cell? ⟨(ad303.add ((x7_1).toNat * 4)).block, (ad303.add ((x7_1).toNat * 4)).off + 3, none⟩ = some (.int .i64 ((rd_T24 l1 x7_1).f3))) (ds := []) #[false, false, false, false, false, false, false, false, false, false, false, false, false] (by kernel_rfl) rfl rfl ⟨((HB.out.cell (cl_ w _ hw303_0)).trans hw303_0), ((HB.out.cell (cl_ w _ hw303_1)).trans hw303_1), ((HB.out.cell (cl_ w _ hw303_2)).trans hw303_2), ((HB.out.cell (cl_ w _ hw303_3)).trans hw303_3), ((HB.out.cell (cl_ w _ hw305_0)).trans hw305_0), ((HB.out.cell (cl_ w _ hw305_1)).trans hw305_1), ((HB.out.cell (cl_ w _ hw305_2)).trans hw305_2), ((HB.out.cell (cl_ w _ hw305_3)).trans hw305_3)⟩ (fun hHeld => ?_); refine with_tabW catenarylaw09_ConfDoes.tab8 catenarylaw09_ConfDoes.bits8 (fun HT_ HW_ => ?_)
          generalize wc.drew = w61 at HO_5 HO_6 HB hx303_0 hx303_1 hx303_2 hx303_3 hx305_0 hx305_1 hx305_2 hx305_3 hHeld ⊢
          refine pure_ (i := 0) (N := some 29) (v := ?_) (a' := ?_) #[true, false, false, false, false, false, false, false, false, false, false, false, false] rfl rfl (any_of HT_.out (by kernel_rfl)) (fun _ _ _ h => h) (Or.inl ⟨by rfl, ?_⟩) ?_ ?_
          rotate_left
          ·intro w'
           go_simp
           with_reducible rfl
          rotate_left
          ·simp only [Act.put, sa_, sz_, ss_, i64_w, i32_w]
           rfl
          refine pure_ (i := 1) (N := some 30) (v := ?_) (a' := ?_) #[true, true, false, false, false, false, false, false, false, false, false, false, false] rfl rfl (any_of HT_.out (by kernel_rfl)) (fun _ _ _ h => h) (Or.inl ⟨by rfl, ?_⟩) ?_ ?_
          rotate_left
          ·intro w'
           go_simp
           with_reducible rfl
          rotate_left
          ·simp only [Act.put, sa_, sz_, ss_, i64_w, i32_w]
           rfl
          refine pure_ (i := 2) (N := some 31) (v := ?_) (a' := ?_) #[true, true, true, false, false, false, false, false, false, false, false, false, false] rfl rfl (any_of HT_.out (by kernel_rfl)) (fun _ _ _ h => h) (Or.inl ⟨by rfl, ?_⟩) ?_ ?_
          rotate_left
          ·intro w'
           go_simp
           with_reducible rfl
          rotate_left
          ·simp only [Act.put, sa_, sz_, ss_, i64_w, i32_w]
           rfl
          refine pure_ (i := 3) (N := some 32) (v := ?_) (a' := ?_) #[true, true, true, true, false, false, false, false, false, false, false, false, false] rfl rfl (any_of HT_.out (by kernel_rfl)) (fun _ _ _ h => h) (Or.inl ⟨by rfl, ?_⟩) ?_ ?_
          rotate_left
          ·intro w'
           go_simp
           with_reducible rfl
          rotate_left
          ·simp only [Act.put, sa_, sz_, ss_, i64_w, i32_w]
           rfl
          refine pure_ (i := 6) (N := some 35) (v := ?_) (a' := ?_) #[true, true, true, true, false, false, true, false, false, false, false, false, false] rfl rfl (any_of HT_.out (by kernel_rfl)) (fun _ _ _ h => h) (Or.inl ⟨by rfl, ?_⟩) ?_ ?_
          rotate_left
          ·intro w'
           go_simp
           with_reducible rfl
          rotate_left
          ·simp only [Act.put, sa_, sz_, ss_, i64_w, i32_w]
           rfl
          refine pure_ (i := 7) (N := some 36) (v := ?_) (a' := ?_) #[true, true, true, true, false, false, true, true, false, false, false, false, false] rfl rfl (any_of HT_.out (by kernel_rfl)) (fun _ _ _ h => h) (Or.inl ⟨by rfl, ?_⟩) ?_ ?_
          rotate_left
          ·intro w'
           go_simp
           with_reducible rfl
          rotate_left
          ·simp only [Act.put, sa_, sz_, ss_, i64_w, i32_w]
           rfl
          refine pure_ (i := 8) (N := some 37) (v := ?_) (a' := ?_) #[true, true, true, true, false, false, true, true, true, false, false, false, false] rfl rfl (any_of HT_.out (by kernel_rfl)) (fun _ _ _ h => h) (Or.inl ⟨by rfl, ?_⟩) ?_ ?_
          rotate_left
          ·intro w'
           go_simp
           with_reducible rfl
          rotate_left
          ·simp only [Act.put, sa_, sz_, ss_, i64_w, i32_w]
           rfl
          refine pure_ (i := 9) (N := some 38) (v := ?_) (a' := ?_) #[true, true, true, true, false, false, true, true, true, true, false, false, false] rfl rfl (any_of HT_.out (by kernel_rfl)) (fun _ _ _ h => h) (Or.inl ⟨by rfl, ?_⟩) ?_ ?_
          rotate_left
          ·intro w'
           go_simp
           with_reducible rfl
          rotate_left
          ·simp only [Act.put, sa_, sz_, ss_, i64_w, i32_w]
           rfl
          refine take_ (i := 4) (N := some 33) (v := ?_) (a' := ?_) #[true, true, true, true, true, false, true, true, true, true, false, false, false] rfl rfl (take_ofW HT_.out HW_.out (by kernel_rfl)) (fun _ _ _ h => h) (Or.inl ⟨by rfl, ?_⟩) hHeld ?_ ?_
          rotate_left
          ·rintro w' ⟨s0, s1, s2, s3, s4, s5, s6, s7⟩
           go_simp
           with_reducible rfl
          rotate_left
          ·simp only [Act.put, sa_, sz_, ss_, i64_w, i32_w]
           rfl
          refine take_ (i := 10) (N := some 39) (v := ?_) (a' := ?_) #[true, true, true, true, true, false, true, true, true, true, true, false, false] rfl rfl (take_ofW HT_.out HW_.out (by kernel_rfl)) (fun _ _ _ h => h) (Or.inl ⟨by rfl, ?_⟩) hHeld ?_ ?_
          rotate_left
          ·rintro w' ⟨s0, s1, s2, s3, s4, s5, s6, s7⟩
           go_simp
           with_reducible rfl
          rotate_left
          ·simp only [Act.put, sa_, sz_, ss_, i64_w, i32_w]
           rfl
          refine one_ (i := 5) (N := some 34) #[true, true, true, true, true, true, true, true, true, true, true, false, false] rfl rfl (one_of HT_.out (by kernel_rfl)) (by decide) (fun K hK => ?_)
          refine goes_ Tryd.func26 (by kernel_rfl) rfl #[.slice Ao62 x5_1.length co62, .agg #[.int .i64 ((rd_T24 l1 x7_1).f0), .int .i64 ((rd_T24 l1 x7_1).f1), .int .u64 ((rd_T24 l1 x7_1).f2), .int .i64 ((rd_T24 l1 x7_1).f3)]] (by rfl) rfl rfl (by (try simp only [List.map_toArray, List.map_cons, List.map_nil]); first | done | rfl | (simp only [List.length_drop, lt_]; rfl)) ?_
          with_reducible refine (conf_Can.calls kj6 _ _ x5_1 ((rd_T24 l1 x7_1).f0) ((rd_T24 l1 x7_1).f1) ((rd_T24 l1 x7_1).f2) ((rd_T24 l1 x7_1).f3) t304 _ ?side1 ?side2 A12.out).mono ?_
          (case side1 => repeat (first | exact (Kd.S_reads' HO_5.out).2.2 | (with_reducible refine Kd.C_alloc ?_ _) | (with_reducible refine Kd.C_drewN ?_ _) | (with_reducible refine Kd.C_drew ?_)))
          (case side2 => exact (Kd.S_reads' HO_5.out).2.1)
          rintro e w63 ⟨rfl, hb⟩
          refine ⟨_, rfl, ?_⟩
          have n0_ := am_ (Kd.S_below (by (with_reducible repeat (first | apply Kd.S_alloc | apply Kd.S_drewN | apply Kd.S_drew)); exact HO_5.out) hb)
          have n1_ := am_ (Kd.V_below (by (with_reducible repeat (first | apply Kd.V_alloc | apply Kd.V_drewN | apply Kd.V_drew)); exact HO_6.out) hb)
          have n2_ := am_ (bt_ (by repeat (first | (with_reducible first | exact HB.out | apply ba_ | apply bn_ | apply bd_) | exact HB.out)) hb)
          clear HO_5
          clear HO_6
          clear HB
          have HO_5 := n0_
          have HO_6 := n1_
          have HB := n2_
          clear n0_ n1_ n2_
          (try clear hb)
          (try clear hb2)
          (try clear hk)
          (try clear hi)
          obtain ⟨Ao64, co64, eo64⟩ := Kd.V_slice HO_6.out
          (first | subst eo64 | (injection eo64 with f1_ f2_ f3_; have f4_ := f1_.symm; have f5_ := f3_.symm; clear f1_ f2_ f3_; subst f4_; subst f5_))
          refine hK.out _ _ ⟨((HB.out.cell (cl_ w _ hw303_0)).trans hw303_0), ((HB.out.cell (cl_ w _ hw303_1)).trans hw303_1), ((HB.out.cell (cl_ w _ hw303_2)).trans hw303_2), ((HB.out.cell (cl_ w _ hw303_3)).trans hw303_3), ((HB.out.cell (cl_ w _ hw305_0)).trans hw305_0), ((HB.out.cell (cl_ w _ hw305_1)).trans hw305_1), ((HB.out.cell (cl_ w _ hw305_2)).trans hw305_2), ((HB.out.cell (cl_ w _ hw305_3)).trans hw305_3)⟩ (fun hHeld => ?_)
          clear hK K
          refine norm_ (a' := ?_) ?_ ?_
          rotate_left
          ·show Act.put _ (some 34) _ = _
           simp only [Act.put, sa_, sz_, ss_, i64_w, i32_w]
           rfl
          refine one_ (i := 11) (N := some 40) #[true, true, true, true, true, true, true, true, true, true, true, true, false] rfl rfl (one_of HT_.out (by kernel_rfl)) (by decide) (fun K hK => ?_)
          refine goes_ Tryd.func27 (by kernel_rfl) rfl #[.slice Ao64 x6_1.length co64, .agg #[.int .i64 ((rd_T24 l1 x7_1).f0), .int .i64 ((rd_T24 l1 x7_1).f1), .int .u64 ((rd_T24 l1 x7_1).f2), .int .i64 ((rd_T24 l1 x7_1).f3)]] (by rfl) rfl rfl (by (try simp only [List.map_toArray, List.map_cons, List.map_nil]); first | done | rfl | (simp only [List.length_drop, lt_]; rfl)) ?_
          with_reducible refine (catenaryref09_Can.calls kj6 _ _ x6_1 ((rd_T24 l1 x7_1).f0) ((rd_T24 l1 x7_1).f1) ((rd_T24 l1 x7_1).f2) ((rd_T24 l1 x7_1).f3) t306 _ ?side1 ?side2 A13.out).mono ?_
          (case side1 => repeat (first | exact (Kd.V_reads' HO_6.out).2.2 | (with_reducible refine Kd.C_alloc ?_ _) | (with_reducible refine Kd.C_drewN ?_ _) | (with_reducible refine Kd.C_drew ?_)))
          (case side2 => exact (Kd.V_reads' HO_6.out).2.1)
          rintro e w65 ⟨rfl, hb⟩
          refine ⟨_, rfl, ?_⟩
          have n0_ := am_ (Kd.S_below (by (with_reducible repeat (first | apply Kd.S_alloc | apply Kd.S_drewN | apply Kd.S_drew)); exact HO_5.out) hb)
          have n1_ := am_ (Kd.V_below (by (with_reducible repeat (first | apply Kd.V_alloc | apply Kd.V_drewN | apply Kd.V_drew)); exact HO_6.out) hb)
          have n2_ := am_ (bt_ (by repeat (first | (with_reducible first | exact HB.out | apply ba_ | apply bn_ | apply bd_) | exact HB.out)) hb)
          clear HO_5
          clear HO_6
          clear HB
          have HO_5 := n0_
          have HO_6 := n1_
          have HB := n2_
          clear n0_ n1_ n2_
          (try clear hb)
          (try clear hb2)
          (try clear hk)
          (try clear hi)
          refine hK.out _ _ ⟨((HB.out.cell (cl_ w _ hw303_0)).trans hw303_0), ((HB.out.cell (cl_ w _ hw303_1)).trans hw303_1), ((HB.out.cell (cl_ w _ hw303_2)).trans hw303_2), ((HB.out.cell (cl_ w _ hw303_3)).trans hw303_3), ((HB.out.cell (cl_ w _ hw305_0)).trans hw305_0), ((HB.out.cell (cl_ w _ hw305_1)).trans hw305_1), ((HB.out.cell (cl_ w _ hw305_2)).trans hw305_2), ((HB.out.cell (cl_ w _ hw305_3)).trans hw305_3)⟩ (fun hHeld => ?_)
          clear hK K
          refine norm_ (a' := ?_) ?_ ?_
          rotate_left
          ·show Act.put _ (some 40) _ = _
           simp only [Act.put, sa_, sz_, ss_, i64_w, i32_w]
           rfl
          refine pure_ (i := 12) (N := some 41) (v := ?_) (a' := ?_) #[true, true, true, true, true, true, true, true, true, true, true, true, true] rfl rfl (any_of HT_.out (by kernel_rfl)) (fun _ _ _ h => h) (Or.inl ⟨by rfl, ?_⟩) ?_ ?_
          rotate_left
          ·intro w'
           go_simp
           with_reducible rfl
          rotate_left
          ·simp only [Act.put, sa_, sz_, ss_, i64_w, i32_w]
           rfl
          refine done_ (done_of HT_.out (by kernel_rfl)) ?_
          try go_wp2
          go_ret
          exact ⟨by first | rfl | (simp [errW_none, errW_some] <;> rfl) | (simp [*, errW_none, errW_some] <;> rfl), by repeat (first | (with_reducible first | exact HB.out | apply ba_ | apply bn_ | apply bd_) | exact HB.out)⟩
        ·rw [if_neg c11] at H
         exact absurd H (by simp)
       ·rw [if_neg c10] at H
        exact absurd H (by simp)
      ·replace c9 := Bool.eq_false_iff.mpr c9
       subst c9
       have H1 : ((catenarylaw09_awake.f kj6).bind fun t302 => (some t302)) = some r := by rw [if_neg (show ¬ (false = true) by decide)] at H; exact H
       clear H
       have H := H1
       clear H1
       replace H := Option.bind_eq_some_iff.mp H
       obtain ⟨t302, A660, H⟩ := H
       replace H : (some t302) = some r := H
       have A66 := am_ A660
       clear A660
       obtain rfl := Option.some.inj H
       go_wp2_with (first | ((with_reducible refine gate_callee (f := 24) rfl ?_); refine goesL_ (some 77) rfl rfl Tryd.func24 (by kernel_rfl) rfl #[] rfl (by (try simp only [List.map_toArray, List.map_cons, List.map_nil]); first | done | rfl | (simp only [List.length_drop, lt_]; rfl)) ?_; (with_reducible refine (catenarylaw09_awake.calls kj6  t302 _ A66.out).mono ?_); rintro e w67 ⟨rfl, hb⟩; refine ⟨_, rfl, ?_⟩; have n0_ := am_ (Kd.S_below (by (with_reducible repeat (first | apply Kd.S_alloc | apply Kd.S_drewN | apply Kd.S_drew)); exact HO_5.out) hb); have n1_ := am_ (Kd.V_below (by (with_reducible repeat (first | apply Kd.V_alloc | apply Kd.V_drewN | apply Kd.V_drew)); exact HO_6.out) hb); have n2_ := am_ (bt_ (by repeat (first | (with_reducible first | exact HB.out | apply ba_ | apply bn_ | apply bd_) | exact HB.out)) hb); clear HO_5; clear HO_6; clear HB; have HO_5 := n0_; have HO_6 := n1_; have HB := n2_; clear n0_ n1_ n2_; (try clear hb); (try clear hb2); (try clear hk); (try clear hi)))
       go_ret
       exact ⟨by first | rfl | (simp [errW_none, errW_some] <;> rfl) | (simp [*, errW_none, errW_some] <;> rfl), by repeat (first | (with_reducible first | exact HB.out | apply ba_ | apply bn_ | apply bd_) | exact HB.out)⟩
 ·replace c4 := Bool.eq_false_iff.mpr c4
  subst c4
  have H1 : ((catenarylaw09_awake.f k).bind fun t298 => (some t298)) = some r := by rw [if_neg (show ¬ (false = true) by decide)] at H; exact H
  clear H
  have H := H1
  clear H1
  replace H := Option.bind_eq_some_iff.mp H
  obtain ⟨t298, A680, H⟩ := H
  replace H : (some t298) = some r := H
  have A68 := am_ A680
  clear A680
  obtain rfl := Option.some.inj H
  go_enter Tryd.func5, Tryd.ntmps5
  go_wp2_with (first | ((with_reducible refine gate_callee (f := 23) rfl ?_); refine goesL_ (some 13) rfl rfl Tryd.func23 (by kernel_rfl) rfl #[.slice A0 l0.length c0] rfl (by (try simp only [List.map_toArray, List.map_cons, List.map_nil]); first | done | rfl | (simp only [List.length_drop, lt_]; rfl)) ?_; (with_reducible refine (catenarylaw09_few.calls k _ _ l0 false _ ?side1 ?side2 A3.out).mono ?_); (case side1 => repeat (first | exact (Kd.V_reads' HO0.out).2.2 | (with_reducible refine Kd.C_alloc ?_ _) | (with_reducible refine Kd.C_drewN ?_ _) | (with_reducible refine Kd.C_drew ?_))); (case side2 => exact (Kd.V_reads' HO0.out).2.1); rintro e w' ⟨rfl, ⟨nd, rfl⟩⟩; refine ⟨_, rfl, ?_⟩) | ((with_reducible refine gate_callee (f := 24) rfl ?_); refine goesL_ (some 15) rfl rfl Tryd.func24 (by kernel_rfl) rfl #[] rfl (by (try simp only [List.map_toArray, List.map_cons, List.map_nil]); first | done | rfl | (simp only [List.length_drop, lt_]; rfl)) ?_; (with_reducible refine (catenarylaw09_awake.calls k  t298 _ A68.out).mono ?_); rintro e w69 ⟨rfl, hb⟩; refine ⟨_, rfl, ?_⟩; have n0_ := am_ (Kd.V_below (by (with_reducible repeat (first | apply Kd.V_alloc | apply Kd.V_drewN | apply Kd.V_drew)); exact HO0.out) hb); have n1_ := am_ (bt_ (by repeat (first | (with_reducible first | exact HB.out | apply ba_ | apply bn_ | apply bd_) | exact HB.out)) hb); clear HO0; clear HB; have HO0 := n0_; have HB := n1_; clear n0_ n1_; (try clear hb); (try clear hb2); (try clear hk); (try clear hi)))
  go_ret
  exact ⟨by first | rfl | (simp [errW_none, errW_some] <;> rfl) | (simp [*, errW_none, errW_some] <;> rfl), by repeat (first | (with_reducible first | exact HB.out | apply ba_ | apply bn_ | apply bd_) | exact HB.out)⟩
end Go.Proofs.YtlpkandfmbnlnaaDoor.Q
end
