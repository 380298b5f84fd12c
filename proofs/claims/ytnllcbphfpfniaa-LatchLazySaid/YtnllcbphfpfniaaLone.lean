/- From a contract over one goroutine to the row that says 'leaving' and 'outside: time passes': for a call that starts no goroutine. No program in sight. -/
import Derived.Conc.HoldsTime
import Derived.StillGives
import Derived.SizedLaws
set_option linter.unusedVariables false
namespace Go.Proofs.Ytnllcbphfpfniaa.Lone
open Go.Conc Go.ConcM

theorem leavesIn_done {P : Program} {g : Goroutine} (h : g.status = .finished) : g.Leaves P := ⟨0, h⟩

theorem leaving_of_alone {P : Program} {m : Machine} {w : World} {t : Trace} (h : aloneAtReturn P m w t) : leavingAtReturn P m w t := by
  obtain ⟨⟨h1, h2⟩, h3, h4⟩ := h
  refine ⟨h3, ⟨fun g hg => ?_, h2⟩, h4⟩
  unfold Machine.othersDone at h1
  exact leavesIn_done (by simpa using List.all_eq_true.1 h1 g hg)

theorem leaving_of_handed {a : Assume} {C : Checked} {os : Os} {f : FuncId} {r : Reach} {Pre : World → Array Value → Prop} {Post Post' : World → Array Value → Value → World → Prop}
    (hp : ∀ w args v w', Post w args v w' → Post' w args v w') (h : ReturnsInHanded a C os f r Pre Post) : ReturnsInLeavingWide a C os f r Pre Post' :=
  fun enter => ReturnsInOpen.mono_post hp (ReturnsInOpen.mono (fun _ _ _ x => leaving_of_alone x) (fun _ x => x) (h enter))

theorem timed {H : Type} {enc : TypeId × Value → H} {P : Program} {f : Func} {s : ChangeSpec} {F : Stop.Interp} {apart fresh handsOn : Bool} (W : World) (args : Array Value) (v : Value) (W' : World)
    (h : s.post enc P f apart fresh handsOn false W args v W') : (OpenSpec.ofChange s).postWith enc P f F (outsideKept [.timePasses]) apart fresh handsOn W args v W' := by
  have hos : W'.os = W.os := by
    obtain ⟨ds, gs, before, pr, pa, pv, h1, h2, h3, h4, h5, _⟩ := h
    exact h5.1
  have e : { W' with os := W.os } = W' := by rw [← hos]
  exact postWith_of_post (by rw [e]; exact h) (by rw [hos]; exact OsLater.refl _)

end Go.Proofs.Ytnllcbphfpfniaa.Lone
