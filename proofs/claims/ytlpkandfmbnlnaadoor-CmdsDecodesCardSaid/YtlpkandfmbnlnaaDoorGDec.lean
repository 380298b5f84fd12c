/- The chapter's Decode, in the form of the printed functions. -/
import Derived.Test.YtlpkandfmbnlnaaDoorE0
import Derived.Test.YtlpkandfmbnlnaaDoorCmdsR
import Derived.Test.YtlpkandfmbnlnaaDoorGEnc
namespace Go.Proofs.YtlpkandfmbnlnaaDoor.E
open Go.RowKit Go.Proofs.YtlpkandfmbnlnaaDoor.E Go.Proofs.YtlpkandfmbnlnaaDoorW.PrintWords Go.Proofs.YtlpkandfmbnlnaaDoorW.PrintLast Go.Proofs.YtlpkandfmbnlnaaDoorW.PrintMore
open Go.Proofs.YtlpkandfmbnlnaaDoor.Mem Go.Proofs.YtlpkandfmbnlnaaDoor.Fix Go.Proofs.YtlpkandfmbnlnaaDoor.Cmd Go.Proofs.YtlpkandfmbnlnaaDoor.Num Go.Proofs.YtlpkandfmbnlnaaDoor.C
set_option linter.unusedVariables false
def catenaryref08_Decode.f (a0 : List Int) : Option (Int × Int × Int × Int × Int) := if a0.length ≤ 1000000 ∧ (a0.all fun x => decide (0 ≤ x ∧ x < 256)) = true then some ((dC a0).kind, (dC a0).chain, (dC a0).ep, (dC a0).node, dE a0) else none
theorem catenaryref08_Decode.calls (A0 : Option Addr) (c0 : Nat) (l0 : List Int) (r1 : Int) (r2 : Int) (r3 : Int) (r4 : Int) (r5 : Int) (w : World) (hr0 : Kd.C (Kd.int .u8) w A0 l0.length l0) (hc0 : l0.length ≤ c0) (h : catenaryref08_Decode.f l0 = some (r1, r2, r3, r4, r5)) :
    Calls Tryd.prog 22 #[.slice A0 l0.length c0] w fun e w' => e = .returned (.tuple #[.agg #[.int .i64 r1, .int .i64 r2, .int .u64 r3, .int .i64 r4], .int .i64 r5]) ∧ Below w.heap.size w w' := by
  unfold catenaryref08_Decode.f at h
  by_cases hc : l0.length ≤ 1000000 ∧ (l0.all fun x => decide (0 ≤ x ∧ x < 256)) = true
  · rw [if_pos hc] at h
    have h2 := Option.some.inj h
    simp only [Prod.mk.injEq] at h2
    obtain ⟨rfl, rfl, rfl, rfl, rfl⟩ := h2
    exact rdecode_any _ l0 w (slw_of_C hr0 hc0) hc.1 (fun x hx => by simpa using List.all_eq_true.1 hc.2 x hx)
  · rw [if_neg hc] at h
    cases h
end Go.Proofs.YtlpkandfmbnlnaaDoor.E
