/- The walk of the law LatchLazy: the law's function answers true, and nothing that was there turns. -/
import Derived.Test.YtnllcbphfpfniaaLazy
import Derived.Test.YtnllcbphfpfniaaAwake
import Derived.Deep.RegionWith
set_option linter.unusedVariables false
set_option linter.unusedSimpArgs false
namespace Go.Proofs.Ytnllcbphfpfniaa.LazyWalk
open Go Go.RowKit Go.Proofs.Ytnllcbphfpfniaa.Blk Go.Proofs.Ytnllcbphfpfniaa.Latch Go.Proofs.Ytnllcbphfpfniaa.Lazy

/-- What holds at a round's head. -/
def Inv (w : World) (B L1 L2 : Nat) (v : Int) (k : Nat) (wr : World) : Prop :=
  Blk wr B #[.int .u64 v] 25 ∧ At wr L1 (.func (.func 16) #[] #[.pointer (some ⟨B, 0, none⟩)]) (if k = 0 then none else some (1, v)) ∧ At wr L2 .nilFunc (if k = 0 then none else some (0, 0)) ∧ w.grownBy wr none

theorem runs_one (L : Nat) (mk : Value) (v : Int) (w : World) (h : At w L mk (some (1, v))) : Calls Try.prog 17 #[.pointer (some ⟨L, 0, none⟩)] w fun e w' => e = .returned (.int .i64 1) ∧ w = w' :=
  runs_any L 1 (by omega) (by omega) w (Blk.cell (show Blk _ _ _ _ from h) (i := 4) rfl)
theorem runs_zero (L : Nat) (mk : Value) (v : Int) (w : World) (h : At w L mk (some (0, v))) : Calls Try.prog 17 #[.pointer (some ⟨L, 0, none⟩)] w fun e w' => e = .returned (.int .i64 0) ∧ w = w' :=
  runs_any L 0 (by omega) (by omega) w (Blk.cell (show Blk _ _ _ _ from h) (i := 4) rfl)
theorem again_x (L : Nat) (mk : Value) (r v : Int) (w : World) (h : At w L mk (some (r, v))) : Calls Try.prog 18 #[.pointer (some ⟨L, 0, none⟩)] w fun e w' => e = .returned (.int .u64 v) ∧ w = w' :=
  get_again L mk (r, v) w h

set_option maxRecDepth 100000 in
set_option maxHeartbeats 3200000 in
theorem lazy_any (v n : Int) (h0 : 0 ≤ n) (h1 : n ≤ 255) (w : World) :
    Calls Try.prog 4 #[.int .u64 v, .int .u8 n] w fun e w' => e = .returned (.bool true) ∧ w.grownBy w' none := by
  have HAW := Lib.hid Awake.awake_any
  have hmf := makes
  go_enter Try.func4, Try.ntmps4
  go_wp2_with fail
  refine (of_func _ _ _ _).mono ?_
  rintro e w1 ⟨rfl, rfl⟩
  go_wp2_with fail
  refine (of_none _).mono ?_
  rintro e w1 ⟨rfl, rfl⟩
  go_wp2_with fail
  have inv : Inv w w.heap.size (w.heap.size + 1) (w.heap.size + 1 + 1) v 0 (((w.alloc (.cells #[.int .u64 v] 25)).alloc (.cells #[.int .u32 0, .int .i32 0, .int .u32 0, .func (.func 16) #[] #[.pointer (some ⟨w.heap.size, 0, none⟩)], .int .i32 0, .int .u64 0] 75)).alloc (.cells #[.int .u32 0, .int .i32 0, .int .u32 0, .nilFunc, .int .i32 0, .int .u64 0] 75)) := by
    have s1 : (w.alloc (.cells #[.int .u64 v] 25)).heap.size = w.heap.size + 1 := by simp
    have s2 : ((w.alloc (.cells #[.int .u64 v] 25)).alloc (.cells #[.int .u32 0, .int .i32 0, .int .u32 0, .func (.func 16) #[] #[.pointer (some ⟨w.heap.size, 0, none⟩)], .int .i32 0, .int .u64 0] 75)).heap.size = w.heap.size + 1 + 1 := by simp
    have b1 := ((Blk.new w #[.int .u64 v] 25).alloc (.cells #[.int .u32 0, .int .i32 0, .int .u32 0, .func (.func 16) #[] #[.pointer (some ⟨w.heap.size, 0, none⟩)], .int .i32 0, .int .u64 0] 75)).alloc (.cells #[.int .u32 0, .int .i32 0, .int .u32 0, .nilFunc, .int .i32 0, .int .u64 0] 75)
    have b2 := (Blk.new (w.alloc (.cells #[.int .u64 v] 25)) #[.int .u32 0, .int .i32 0, .int .u32 0, .func (.func 16) #[] #[.pointer (some ⟨w.heap.size, 0, none⟩)], .int .i32 0, .int .u64 0] 75).alloc (.cells #[.int .u32 0, .int .i32 0, .int .u32 0, .nilFunc, .int .i32 0, .int .u64 0] 75)
    have b3 := Blk.new ((w.alloc (.cells #[.int .u64 v] 25)).alloc (.cells #[.int .u32 0, .int .i32 0, .int .u32 0, .func (.func 16) #[] #[.pointer (some ⟨w.heap.size, 0, none⟩)], .int .i32 0, .int .u64 0] 75)) #[.int .u32 0, .int .i32 0, .int .u32 0, .nilFunc, .int .i32 0, .int .u64 0] 75
    rw [s1] at b2
    rw [s2] at b3
    exact ⟨b1, b2, b3, grown_trans (grown_trans (grown_alloc _ _ _) (grown_alloc _ _ _)) (grown_alloc _ _ _)⟩
  refine (runs_any (w.heap.size + 1) 0 (by omega) (by omega) _ (Blk.cell (show Blk _ _ _ _ from inv.2.1) (i := 4) rfl)).mono ?_
  rintro e w1 ⟨rfl, rfl⟩
  have INV := Lib.hid inv
  clear inv
  go_wp2_with fail
  have hB : w.heap.size ≤ w.heap.size := Nat.le_refl _
  generalize hS : w.heap.size = B at INV
  have HS := Lib.hid hS
  clear hS hB
  go_loopw [8] (fun i wr => ∃ k : Nat, k ≤ 9 ∧ i = .int .i64 k ∧ Hid (Inv w B (B + 1) (B + 1 + 1) v k wr)) (fun i _ => 9 - (intOf i).toNat)
  case atStart => exact ⟨0, by omega, rfl, INV.out⟩
  case round =>
    obtain ⟨k, hk, rfl, hrel⟩ := hrel
    obtain ⟨hB, hX, hY, hG⟩ := hrel.out
    clear hrel INV
    have HB := Lib.hid hB
    have cB := hB.cell (i := 0) (v := .int .u64 v) rfl
    have G := Lib.hid hG
    clear hB hG
    by_cases hlt : (k : Int) ≤ n % 9
    · by_cases hk0 : k = 0
      · have HX := Lib.hid (show At wr (B + 1) (.func (.func 16) #[] #[.pointer (some ⟨B, 0, none⟩)]) none from by rw [if_pos hk0] at hX; exact hX)
        have HY := Lib.hid (show At wr (B + 1 + 1) .nilFunc none from by rw [if_pos hk0] at hY; exact hY)
        have HK := Lib.hid hk0
        clear hX hY hk0
        go_wp2_with fail
        go_region_with (first | (go_at_call 18; ((with_reducible refine (get_made (B + 1) B v _ ?_ ?_ ?_).mono ?_)); exact HX.out; exact HB.out; omega; rintro e w1 ⟨rfl, hx, gx⟩; have HX1 := Lib.hid hx; have GX := Lib.hid gx; have cB1 := World.grownBy.cell gx (v := .int .u64 v) (a := ⟨B, 0, none⟩) cB (by simp); have HY1 := Lib.hid (At.grown (show At wr.drew (B + 1 + 1) .nilFunc none from HY.out) gx (by simp)); clear hx gx) | (go_at_call 17; ((with_reducible refine (runs_one (B + 1) (.func (.func 16) #[] #[.pointer (some ⟨B, 0, none⟩)]) v _ ?_).mono ?_)); exact HX1.out; rintro e w' ⟨rfl, rfl⟩) | (go_at_call 18; ((with_reducible refine (get_none (B + 1 + 1) _ ?_).mono ?_)); exact HY1.out; rintro e w2 ⟨rfl, hy, gy⟩; have HY2 := Lib.hid hy; have GY := Lib.hid gy; clear hy gy) | (go_at_call 17; ((with_reducible refine (runs_zero (B + 1 + 1) .nilFunc 0 _ ?_).mono ?_)); exact HY2.out; rintro e w' ⟨rfl, rfl⟩))
        all_goals
          go_wp2_with fail
          go_roundw
          case rel =>
            refine ⟨k + 1, by have := HK.out; omega, by go_num, ?_⟩
            have hn : ¬ k + 1 = 0 := by omega
            refine ⟨Blk.grown (Blk.grown (show Blk wr.drew B #[.int .u64 v] 25 from HB.out) GX.out (by simp)) GY.out (fun e => by have := Option.some.inj e; omega), ?_, ?_, grown_fresh (grown_fresh (grown_trans G.out (grown_drew _ _)) GX.out (by have := HS.out; omega)) GY.out (by have := HS.out; omega)⟩
            · rw [if_neg hn]
              exact At.grown HX1.out GY.out (fun e => by have := Option.some.inj e; omega)
            · rw [if_neg hn]
              exact HY2.out
          case measure => have := HK.out; simp [intOf]; omega
      · have HX := Lib.hid (show At wr (B + 1) (.func (.func 16) #[] #[.pointer (some ⟨B, 0, none⟩)]) (some (1, v)) from by rw [if_neg hk0] at hX; exact hX)
        have HY := Lib.hid (show At wr (B + 1 + 1) .nilFunc (some (0, 0)) from by rw [if_neg hk0] at hY; exact hY)
        have HK := Lib.hid hk0
        clear hX hY hk0
        go_wp2_with fail
        go_region_with (first | (go_at_call 18; ((with_reducible refine (again_x (B + 1) (.func (.func 16) #[] #[.pointer (some ⟨B, 0, none⟩)]) 1 v _ ?_).mono ?_)); exact HX.out; rintro e w' ⟨rfl, rfl⟩) | (go_at_call 17; ((with_reducible refine (runs_one (B + 1) (.func (.func 16) #[] #[.pointer (some ⟨B, 0, none⟩)]) v _ ?_).mono ?_)); exact HX.out; rintro e w' ⟨rfl, rfl⟩) | (go_at_call 18; ((with_reducible refine (again_x (B + 1 + 1) .nilFunc 0 0 _ ?_).mono ?_)); exact HY.out; rintro e w' ⟨rfl, rfl⟩) | (go_at_call 17; ((with_reducible refine (runs_zero (B + 1 + 1) .nilFunc 0 _ ?_).mono ?_)); exact HY.out; rintro e w' ⟨rfl, rfl⟩))
        all_goals
          go_wp2_with fail
          go_roundw
          case rel =>
            refine ⟨k + 1, by omega, by go_num, ?_⟩
            have hn : ¬ k + 1 = 0 := by omega
            refine ⟨HB.out, ?_, ?_, grown_trans G.out (grown_drew _ _)⟩
            · rw [if_neg hn]
              exact HX.out
            · rw [if_neg hn]
              exact HY.out
          case measure => simp [intOf]; omega
    · clear hX hY
      go_wp2_with fail
      refine (HAW.out _).mono ?_
      rintro e w' ⟨rfl, g2⟩
      have G2 := Lib.hid g2
      clear g2
      go_wp2_with fail
      go_ret
      exact ⟨rfl, grown_trans G.out G2.out⟩

end Go.Proofs.Ytnllcbphfpfniaa.LazyWalk
