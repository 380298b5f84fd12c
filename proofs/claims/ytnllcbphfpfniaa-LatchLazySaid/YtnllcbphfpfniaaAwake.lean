/- The page's example of layer 5 answers true: in whatever memory; nothing that was there turns. -/
import Derived.Test.YtnllcbphfpfniaaLaInt
set_option linter.unusedVariables false
set_option linter.unusedSimpArgs false
namespace Go.Proofs.Ytnllcbphfpfniaa.Awake
open Go Go.RowKit Go.Proofs.Ytnllcbphfpfniaa.Blk Go.Proofs.Ytnllcbphfpfniaa.Latch

set_option maxHeartbeats 1600000 in
theorem awake_any (w : World) : Calls Try.prog 14 #[] w fun e w' => e = .returned (.bool true) ∧ w.grownBy w' none := by
  have hat : LaInt.At (w.alloc (.cells #[.int .u32 0, .int .i32 0, .int .u32 0, .int .u32 0, .int .i64 0] 87)) w.heap.size none := Blk.new w _ 87
  have HAT := Lib.hid hat
  clear hat
  have g0 := Lib.hid (grown_alloc w (.cells #[.int .u32 0, .int .i32 0, .int .u32 0, .int .u32 0, .int .i64 0] 87) none)
  go_enter Try.func14, Try.ntmps14
  go_wp2_with fail
  refine (LaInt.new_any w).mono ?_
  rintro e w1 ⟨rfl, rfl⟩
  go_wp2_with fail
  refine (LaInt.set_first w.heap.size 3 _ HAT.out).mono ?_
  rintro e w2 ⟨rfl, h2, g2⟩
  have H2 := Lib.hid h2
  have G2 := Lib.hid g2
  clear h2 g2
  go_wp2_with fail
  refine (LaInt.set_again w.heap.size 3 4 _ H2.out).mono ?_
  rintro e w3 ⟨rfl, h3, g3⟩
  have H3 := Lib.hid h3
  have G3 := Lib.hid g3
  clear h3 g3
  go_wp2_with fail
  refine (LaInt.get_some w.heap.size 3 _ H3.out).mono ?_
  rintro e w4 ⟨rfl, rfl⟩
  go_wp2_with fail
  go_ret
  exact ⟨rfl, grown_trans (grown_fresh g0.out G2.out (Nat.le_refl _)) G3.out⟩

end Go.Proofs.Ytnllcbphfpfniaa.Awake
