/- One goroutine: the contracts of sync/atomic's Bool, of sync.Once, and of a latch of uint64 values: New, Set, Get, Or. -/
import Derived.Test.YtnllcbphfpfniaaRows
import Derived.Test.YtnllcbphfpfniaaBlk
import Derived.WalkKit
import Derived.Conc.MuLone
import Derived.RegionTactic
import Derived.RegionCalls
import Derived.ChangeAlike
import Derived.Defers
import Derived.Outline
import Derived.KernelRfl
import Derived.Lib.Hide
set_option linter.unusedVariables false
namespace Go.Proofs.Ytnllcbphfpfniaa.Latch
open Go Go.RowKit Go.Proofs.Ytnllcbphfpfniaa.Blk Go.Conc.Locks Go.MuLone

abbrev muLink : MuLink := { lock := 47, unlock := 48, ilock := 67, iunlock := 68, lockSlow := 75, unlockSlow := 76, disable := 50, enable := 51, acquire := 62, relMerge := 49, cas32 := 74, add32 := 46, tMutex := 60, tIMutex := 58, tPMutex := 110, tPIMutex := 117, tPI32 := 90, tUP := 99, tNoCopy := 52, tU32 := 54 }
theorem muLib : MuLib Try.prog muLink :=
  ⟨Try.func47, Try.func48, Try.func67, Try.func68, Try.func50, Try.func51, Try.func62, Try.func49, Try.func74, Try.func46, Try.underlying58, Try.runUnderlying58, Try.sizeOf58, Try.isAgg58, Try.zeroValue58, Try.underlying60, Try.runUnderlying60, Try.sizeOf60, Try.isAgg60, Try.zeroValue60, Try.underlying110, Try.runUnderlying110, Try.sizeOf110, Try.isAgg110, Try.zeroValue110, Try.underlying117, Try.runUnderlying117, Try.sizeOf117, Try.isAgg117, Try.zeroValue117, Try.underlying90, Try.runUnderlying90, Try.sizeOf90, Try.isAgg90, Try.zeroValue90, Try.underlying99, Try.runUnderlying99, Try.sizeOf99, Try.isAgg99, Try.zeroValue99, Try.underlying52, Try.runUnderlying52, Try.sizeOf52, Try.isAgg52, Try.zeroValue52, Try.underlying21, Try.runUnderlying21, Try.sizeOf21, Try.isAgg21, Try.zeroValue21, (by kernel_rfl)⟩

theorem notB (x : Bool) (w : World) : (Op.unary .not (.bool x)).run Try.prog w = .ok (.bool (!x)) w := rfl

/-- (*sync/atomic.Bool).Load. -/
theorem load_any (a : Addr) (d : Int) (w : World) (hc : w.cell? a = some (.int .u32 d)) :
    Calls Try.prog 26 #[.pointer (some a)] w fun e w' => e = .returned (.bool (d != 0)) ∧ w = w' := by
  have hl := run_call_load (P := Try.prog) Try.func39 (by kernel_rfl) (by kernel_rfl) (by kernel_rfl) .u32 (by kernel_rfl) hc
  go_enter Try.func26, Try.ntmps26
  go_wp2
  go_ret
  exact ⟨rfl, rfl⟩

/-- (*sync/atomic.Bool).Store(true), a plain call. -/
theorem store_plain (a : Addr) (x : Value) (w : World) (hc : w.cell? a = some x) (hz : w.frozen? a = false) :
    Calls Try.prog 25 #[.pointer (some a), .bool true] w fun e w' => e = .returned (.tuple #[]) ∧ w.drew.setCell a (.int .u32 1) = w' := by
  have hc' : w.drew.cell? a = some x := by go_simp
  have hz' : w.drew.frozen? a = false := by go_simp
  have hst := run_call_store (P := Try.prog) Try.func37 (by kernel_rfl) (by kernel_rfl) (by kernel_rfl) (by kernel_rfl) (k := .u32) (y := 1) hc' hz'
  go_enter Try.func25, Try.ntmps25
  go_wp2
  go_region_calls
  all_goals (go_end0; exact ⟨rfl, rfl⟩)

/-- .. and as a deferred one. -/
theorem store_deferred (a : Addr) (x : Value) (u : FrameMode) (w : World) (hc : w.cell? a = some x) (hz : w.frozen? a = false) :
    CallsD Try.prog 25 #[.pointer (some a), .bool true] u w fun e u' w' => u' = u ∧ (e = .returned (.tuple #[]) ∧ w' = w.drew.setCell a (.int .u32 1)) := by
  have hc' : w.drew.cell? a = some x := by go_simp
  have hz' : w.drew.frozen? a = false := by go_simp
  have hst := run_call_store (P := Try.prog) Try.func37 (by kernel_rfl) (by kernel_rfl) (by kernel_rfl) (by kernel_rfl) (k := .u32) (y := 1) hc' hz'
  go_enter_d Try.func25, Try.ntmps25
  go_wp2
  go_region_calls
  all_goals (go_end0; exact ⟨rfl, rfl⟩)

/-- What a call within Do must leave of the Once at ⟨L, 0⟩: not done, the lock held. -/
def Held (L : Nat) (w : World) : Prop := w.cell? ⟨L, 0, none⟩ = some (.int .u32 0) ∧ w.cell? ⟨L, 1, none⟩ = some (.int .i32 1) ∧ w.frozen? ⟨L, 0, none⟩ = false ∧ w.frozen? ⟨L, 1, none⟩ = false

end Go.Proofs.Ytnllcbphfpfniaa.Latch
