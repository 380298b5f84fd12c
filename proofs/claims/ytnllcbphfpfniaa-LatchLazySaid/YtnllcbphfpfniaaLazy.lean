/- One goroutine: the contracts of a lazy value of type uint64: Of, Runs, Get; made by the law's own function, or by none. -/
import Derived.Test.YtnllcbphfpfniaaOnce
import Derived.Laws.EntriesVeiled
import Derived.WalkLawsBesides
set_option linter.unusedVariables false
set_option linter.unusedSimpArgs false
namespace Go.Proofs.Ytnllcbphfpfniaa.Lazy
open Go Go.RowKit Go.Proofs.Ytnllcbphfpfniaa.Blk Go.Conc.Locks Go.MuLone Go.Proofs.Ytnllcbphfpfniaa.Latch

/-- A lazy value in block L: not made yet, or made r times, and v. -/
def At (w : World) (L : Nat) (mk : Value) (st : Option (Int × Int)) : Prop :=
  match st with
  | none => Blk w L #[.int .u32 0, .int .i32 0, .int .u32 0, mk, .int .i32 0, .int .u64 0] 75
  | some x => Blk w L #[.int .u32 1, .int .i32 0, .int .u32 0, mk, .int .i32 x.1, .int .u64 x.2] 75

theorem At.blk {w : World} {L : Nat} {mk : Value} {st : Option (Int × Int)} (h : At w L mk st) : ∃ cs, Blk w L cs 75 := by
  cases st with
  | none => exact ⟨_, h⟩
  | some v => exact ⟨_, h⟩
theorem At.lt {w : World} {L : Nat} {mk : Value} {st : Option (Int × Int)} (h : At w L mk st) : L < w.heap.size := by
  obtain ⟨_, h⟩ := h.blk
  exact h.lt
theorem At.grown {w w' : World} {L : Nat} {mk : Value} {st : Option (Int × Int)} (h : At w L mk st) {row : Option Nat} (hg : w.grownBy w' row) (hne : some L ≠ row) : At w' L mk st := by
  cases st with
  | none => exact Blk.grown (show Blk _ _ _ _ from h) hg hne
  | some v => exact Blk.grown (show Blk _ _ _ _ from h) hg hne

/-- Of a function. -/
theorem of_func (f : Fn) (first cap : Array Value) (w : World) : Calls Try.prog 15 #[.func f first cap] w fun e w' => e = .returned (.pointer (some ⟨w.heap.size, 0, none⟩)) ∧ w.alloc (.cells #[.int .u32 0, .int .i32 0, .int .u32 0, .func f first cap, .int .i32 0, .int .u64 0] 75) = w' := by
  go_enter Try.func15, Try.ntmps15
  go_wp2
  go_ret
  exact ⟨rfl, rfl⟩

/-- Of none. -/
theorem of_none (w : World) : Calls Try.prog 15 #[.nilFunc] w fun e w' => e = .returned (.pointer (some ⟨w.heap.size, 0, none⟩)) ∧ w.alloc (.cells #[.int .u32 0, .int .i32 0, .int .u32 0, .nilFunc, .int .i32 0, .int .u64 0] 75) = w' := by
  go_enter Try.func15, Try.ntmps15
  go_wp2
  go_ret
  exact ⟨rfl, rfl⟩

/-- Runs. -/
theorem runs_any (L : Nat) (r : Int) (h0 : 0 ≤ r) (h1 : r ≤ 1000) (w : World) (hc : w.cell? ⟨L, 4, none⟩ = some (.int .i32 r)) :
    Calls Try.prog 17 #[.pointer (some ⟨L, 0, none⟩)] w fun e w' => e = .returned (.int .i64 r) ∧ w = w' := by
  have hl := run_call_load (P := Try.prog) Try.func41 (by kernel_rfl) (by kernel_rfl) (by kernel_rfl) .i32 (by kernel_rfl) hc
  go_enter Try.func17, Try.ntmps17
  go_wp2
  go_ret
  exact ⟨rfl, rfl⟩

/-- The law's function. -/
theorem made (B : Nat) (v : Int) (w : World) (hc : w.cell? ⟨B, 0, none⟩ = some (.int .u64 v)) :
    Calls Try.prog 16 #[.pointer (some ⟨B, 0, none⟩)] w fun e w' => e = .returned (.int .u64 v) ∧ w = w' := by
  go_enter Try.func16, Try.ntmps16
  go_wp2
  go_ret
  exact ⟨rfl, rfl⟩

theorem neq_func (B : Nat) (w : World) : (binOp .neq 41 (.func (.func 16) #[] #[.pointer (some ⟨B, 0, none⟩)]) .nilFunc).run Try.prog w = .ok (.bool true) w := by kernel_rfl
theorem neq_nil (w : World) : (binOp .neq 41 .nilFunc .nilFunc).run Try.prog w = .ok (.bool false) w := by kernel_rfl

set_option maxRecDepth 100000 in
set_option maxHeartbeats 800000 in
/-- fill, by the law's function. -/
theorem fill_made (L B : Nat) (v : Int) (x0 x1 x2 x5 : Value) (w : World) (hL : Blk w L #[x0, x1, x2, .func (.func 16) #[] #[.pointer (some ⟨B, 0, none⟩)], .int .i32 0, x5] 75) (hB : Blk w B #[.int .u64 v] 25) (LB : L ≠ B) :
    Calls Try.prog 31 #[.pointer (some ⟨L, 0, none⟩)] w fun e w2 => e = .returned (.tuple #[]) ∧ (w.setCell ⟨L, 4, none⟩ (.int .i32 1)).setCell ⟨L, 5, none⟩ (.int .u64 v) = w2 := by
  have c3 := hL.cell (i := 3) (v := .func (.func 16) #[] #[.pointer (some ⟨B, 0, none⟩)]) rfl
  have c4 := hL.cell (i := 4) (v := .int .i32 0) rfl
  have z4 := hL.free 4
  have hadd := run_call_add (P := Try.prog) Try.func46 (by kernel_rfl) (by kernel_rfl) (by kernel_rfl) .i32 (by kernel_rfl) (y := 1) (s := 1) c4 z4 (by simp [go_sem]; rfl)
  have h1 := hL.set 4 (.int .i32 1)
  have d3 := h1.cell (i := 3) (v := .func (.func 16) #[] #[.pointer (some ⟨B, 0, none⟩)]) rfl
  have d5 := h1.cell (i := 5) (v := x5) rfl
  have y5 := h1.free 5
  have HM := Lib.hid (made B v (w.setCell ⟨L, 4, none⟩ (.int .i32 1)) ((hB.other (a := ⟨L, 4, none⟩) (fun e => LB e.symm) _).cell (i := 0) rfl))
  clear hL hB h1
  have hnf := fun w => neq_func B w
  go_enter Try.func31, Try.ntmps31
  go_wp2_with (go_at_call 34; go_in)
  refine HM.out.mono ?_
  rintro e w2 ⟨rfl, rfl⟩
  go_wp2_with fail
  go_end0
  exact ⟨rfl, rfl⟩

set_option maxRecDepth 100000 in
set_option maxHeartbeats 800000 in
/-- fill, of no function. -/
theorem fill_none (L : Nat) (x0 x1 x2 x4 x5 : Value) (w : World) (hL : Blk w L #[x0, x1, x2, .nilFunc, x4, x5] 75) :
    Calls Try.prog 31 #[.pointer (some ⟨L, 0, none⟩)] w fun e w2 => e = .returned (.tuple #[]) ∧ w = w2 := by
  have c3 := hL.cell (i := 3) (v := .nilFunc) rfl
  have hnf := fun w => neq_nil w
  clear hL
  go_enter Try.func31, Try.ntmps31
  go_wp2_with fail
  go_end0
  exact ⟨rfl, rfl⟩

set_option maxRecDepth 100000 in
set_option maxHeartbeats 1600000 in
/-- (*sync.Once).doSlow of fill, not yet done, the lock free. -/
theorem slow_fill (L : Nat) (Q : World → Prop) (w : World)
    (h0 : w.cell? ⟨L, 0, none⟩ = some (.int .u32 0)) (h1 : w.cell? ⟨L, 1, none⟩ = some (.int .i32 0)) (f0 : w.frozen? ⟨L, 0, none⟩ = false) (f1 : w.frozen? ⟨L, 1, none⟩ = false)
    (hcl : Calls Try.prog 31 #[.pointer (some ⟨L, 0, none⟩)] (w.setCell ⟨L, 1, none⟩ (.int .i32 1)) fun e w2 => e = .returned (.tuple #[]) ∧ Q w2) (hQ : ∀ w2, Q w2 → Held L w2) :
    Calls Try.prog 36 #[.pointer (some ⟨L, 0, none⟩), .func (.func 31) #[.pointer (some ⟨L, 0, none⟩)] #[]] w fun e w' => e = .returned (.tuple #[]) ∧ ∃ w2, Q w2 ∧ (w2.drew.setCell ⟨L, 0, none⟩ (.int .u32 1)).setCell ⟨L, 1, none⟩ (.int .i32 0) = w' := by
  have hl := load_any ⟨L, 0, none⟩ 0 (w.setCell ⟨L, 1, none⟩ (.int .i32 1)) ((World.cell?_setCell_other _ ⟨L, 1, none⟩ ⟨L, 0, none⟩ _ (by simp)).trans h0)
  have HC := Lib.hid hcl
  clear hcl
  have HQ := Lib.hid hQ
  clear hQ
  have HL := Lib.hid hl
  clear hl
  go_enter_defers Try.func36, Try.ntmps36
  go_wp2_with (go_at_call 47; refine (lock_free muLib ⟨L, 1, none⟩ _ h1 f1).mono ?_; rintro e w' ⟨rfl, rfl⟩)
  refine HL.out.mono ?_
  rintro e w' ⟨rfl, rfl⟩
  go_wp2_with fail
  refine HC.out.mono ?_
  rintro e w2 ⟨rfl, hq⟩
  have HH := HQ.out w2 hq
  go_wp2_with fail
  refine leaves_cons (f := 25) (args := #[.pointer (some ⟨L, 0, none⟩), .bool true]) (by simp) (by simp [go_sem]) ?_
  refine (store_deferred ⟨L, 0, none⟩ (.int .u32 0) .returning _ HH.1 HH.2.2.1).mono ?_
  rintro e u' w'' ⟨rfl, rfl, rfl⟩
  refine leaves_cons (f := 48) (args := #[.pointer (some ⟨L, 1, none⟩)]) (by simp [settle]) (by simp [go_sem]) ?_
  refine (unlock_deferred muLib ⟨L, 1, none⟩ _ _ ?_ ?_).mono ?_
  · refine (World.cell?_setCell_other _ ⟨L, 0, none⟩ ⟨L, 1, none⟩ _ (by simp)).trans ?_
    rw [World.cell?_drew]
    exact HH.2.1
  · have := HH.2.2.2
    simp [this]
  rintro e u' w'' ⟨rfl, rfl, rfl⟩
  have hfin : ∃ w3, Q w3 ∧ (w3.drew.setCell ⟨L, 0, none⟩ (.int .u32 1)).setCell ⟨L, 1, none⟩ (.int .i32 0) = (w2.drew.setCell ⟨L, 0, none⟩ (.int .u32 1)).setCell ⟨L, 1, none⟩ (.int .i32 0) := ⟨w2, hq, rfl⟩
  simpa [Leaves, settle, results, Try.results36] using hfin

set_option maxHeartbeats 800000 in
/-- (*sync.Once).Do of fill, not yet done. -/
theorem do_first (L : Nat) (Q : World → Prop) (w : World)
    (h0 : w.cell? ⟨L, 0, none⟩ = some (.int .u32 0)) (h1 : w.cell? ⟨L, 1, none⟩ = some (.int .i32 0)) (f0 : w.frozen? ⟨L, 0, none⟩ = false) (f1 : w.frozen? ⟨L, 1, none⟩ = false)
    (hcl : Calls Try.prog 31 #[.pointer (some ⟨L, 0, none⟩)] (w.setCell ⟨L, 1, none⟩ (.int .i32 1)) fun e w2 => e = .returned (.tuple #[]) ∧ Q w2) (hQ : ∀ w2, Q w2 → Held L w2) :
    Calls Try.prog 23 #[.pointer (some ⟨L, 0, none⟩), .func (.func 31) #[.pointer (some ⟨L, 0, none⟩)] #[]] w fun e w' => e = .returned (.tuple #[]) ∧ ∃ w2, Q w2 ∧ (w2.drew.setCell ⟨L, 0, none⟩ (.int .u32 1)).setCell ⟨L, 1, none⟩ (.int .i32 0) = w' := by
  have HS := Lib.hid (slow_fill L Q w h0 h1 f0 f1 hcl hQ)
  have HL := Lib.hid (load_any ⟨L, 0, none⟩ 0 w h0)
  clear h0 h1 f0 f1 hcl hQ
  go_enter Try.func23, Try.ntmps23
  go_wp2_with fail
  refine HL.out.mono ?_
  rintro e w' ⟨rfl, rfl⟩
  go_wp2_with fail
  refine HS.out.mono ?_
  rintro e w' ⟨rfl, hq⟩
  have HQ := Lib.hid hq
  clear hq
  go_wp2_with fail
  go_end0
  exact ⟨rfl, HQ.out⟩

set_option maxHeartbeats 800000 in
/-- .. and done already. -/
theorem do_done (L : Nat) (fv : Value) (w : World) (h0 : w.cell? ⟨L, 0, none⟩ = some (.int .u32 1)) :
    Calls Try.prog 23 #[.pointer (some ⟨L, 0, none⟩), fv] w fun e w' => e = .returned (.tuple #[]) ∧ w = w' := by
  have HL := Lib.hid (load_any ⟨L, 0, none⟩ 1 w h0)
  clear h0
  go_enter Try.func23, Try.ntmps23
  go_wp2_with fail
  refine HL.out.mono ?_
  rintro e w' ⟨rfl, rfl⟩
  go_wp2_with fail
  go_end0
  exact ⟨rfl, rfl⟩

theorem makes (fn : Fn) (first cap : Array Value) (w : World) : (Instr.makeFunc fn first cap).run Try.prog w = .ok (.func fn first cap) w := rfl

set_option maxRecDepth 100000 in
set_option maxHeartbeats 1600000 in
/-- Get, the first time, of the law's function. -/
theorem get_made (L B : Nat) (v : Int) (w : World) (h : At w L (.func (.func 16) #[] #[.pointer (some ⟨B, 0, none⟩)]) none) (hB : Blk w B #[.int .u64 v] 25) (LB : L ≠ B) :
    Calls Try.prog 18 #[.pointer (some ⟨L, 0, none⟩)] w fun e w' => e = .returned (.int .u64 v) ∧ At w' L (.func (.func 16) #[] #[.pointer (some ⟨B, 0, none⟩)]) (some (1, v)) ∧ w.grownBy w' (some L) := by
  have kL : Blk w L #[.int .u32 0, .int .i32 0, .int .u32 0, .func (.func 16) #[] #[.pointer (some ⟨B, 0, none⟩)], .int .i32 0, .int .u64 0] 75 := h
  have HF := Lib.hid (fill_made L B v _ _ _ _ _ (kL.set 1 (.int .i32 1)) (hB.other (a := ⟨L, 1, none⟩) (fun e => LB e.symm) _) LB)
  have fin : ∀ w2, w2 = ((w.setCell ⟨L, 1, none⟩ (.int .i32 1)).setCell ⟨L, 4, none⟩ (.int .i32 1)).setCell ⟨L, 5, none⟩ (.int .u64 v) →
      Held L w2 ∧ Blk ((w2.drew.setCell ⟨L, 0, none⟩ (.int .u32 1)).setCell ⟨L, 1, none⟩ (.int .i32 0)) L #[.int .u32 1, .int .i32 0, .int .u32 0, .func (.func 16) #[] #[.pointer (some ⟨B, 0, none⟩)], .int .i32 1, .int .u64 v] 75 ∧
      w.grownBy ((w2.drew.setCell ⟨L, 0, none⟩ (.int .u32 1)).setCell ⟨L, 1, none⟩ (.int .i32 0)) (some L) := by
    rintro w2 rfl
    have b1 := ((kL.set 1 (.int .i32 1)).set 4 (.int .i32 1)).set 5 (.int .u64 v)
    refine ⟨⟨b1.cell (i := 0) rfl, b1.cell (i := 1) rfl, b1.free 0, b1.free 1⟩, (b1.drew.set 0 (.int .u32 1)).set 1 (.int .i32 0), ?_⟩
    exact grown_trans (grown_trans (grown_trans (grown_trans (grown_trans (grown_set _ 1 _) (grown_set _ 4 _)) (grown_set _ 5 _)) (grown_drew _ _)) (grown_set _ 0 _)) (grown_set _ 1 _)
  have HD := Lib.hid (do_first L (fun w2 => w2 = ((w.setCell ⟨L, 1, none⟩ (.int .i32 1)).setCell ⟨L, 4, none⟩ (.int .i32 1)).setCell ⟨L, 5, none⟩ (.int .u64 v)) _
    (kL.cell (i := 0) rfl) (kL.cell (i := 1) rfl) (kL.free 0) (kL.free 1) (HF.out.mono fun e w2 ⟨h1, h2⟩ => ⟨h1, h2.symm⟩) (fun w2 h2 => (fin w2 h2).1))
  have FIN := Lib.hid fin
  have hmf := makes
  clear fin kL h hB HF
  go_enter Try.func18, Try.ntmps18
  go_wp2_with fail
  refine HD.out.mono ?_
  rintro e w' ⟨rfl, w2, hq, hw⟩
  obtain ⟨f1, f2, f3⟩ := FIN.out w2 hq
  rw [hw] at f2 f3
  have c5 := f2.cell (i := 5) (v := .int .u64 v) rfl
  have F2 := Lib.hid f2
  have F3 := Lib.hid f3
  clear f1 f2 f3 hq hw FIN HD
  go_wp2_with fail
  go_ret
  exact ⟨rfl, F2.out, F3.out⟩

set_option maxRecDepth 100000 in
set_option maxHeartbeats 1600000 in
/-- Get, the first time, of no function. -/
theorem get_none (L : Nat) (w : World) (h : At w L .nilFunc none) :
    Calls Try.prog 18 #[.pointer (some ⟨L, 0, none⟩)] w fun e w' => e = .returned (.int .u64 0) ∧ At w' L .nilFunc (some (0, 0)) ∧ w.grownBy w' (some L) := by
  have kL : Blk w L #[.int .u32 0, .int .i32 0, .int .u32 0, .nilFunc, .int .i32 0, .int .u64 0] 75 := h
  have HF := Lib.hid (fill_none L _ _ _ _ _ _ (kL.set 1 (.int .i32 1)))
  have fin : ∀ w2, w2 = (w.setCell ⟨L, 1, none⟩ (.int .i32 1)) →
      Held L w2 ∧ Blk ((w2.drew.setCell ⟨L, 0, none⟩ (.int .u32 1)).setCell ⟨L, 1, none⟩ (.int .i32 0)) L #[.int .u32 1, .int .i32 0, .int .u32 0, .nilFunc, .int .i32 0, .int .u64 0] 75 ∧
      w.grownBy ((w2.drew.setCell ⟨L, 0, none⟩ (.int .u32 1)).setCell ⟨L, 1, none⟩ (.int .i32 0)) (some L) := by
    rintro w2 rfl
    have b1 := (kL.set 1 (.int .i32 1))
    refine ⟨⟨b1.cell (i := 0) rfl, b1.cell (i := 1) rfl, b1.free 0, b1.free 1⟩, (b1.drew.set 0 (.int .u32 1)).set 1 (.int .i32 0), ?_⟩
    exact grown_trans (grown_trans (grown_trans (grown_set _ 1 _) (grown_drew _ _)) (grown_set _ 0 _)) (grown_set _ 1 _)
  have HD := Lib.hid (do_first L (fun w2 => w2 = (w.setCell ⟨L, 1, none⟩ (.int .i32 1))) _
    (kL.cell (i := 0) rfl) (kL.cell (i := 1) rfl) (kL.free 0) (kL.free 1) (HF.out.mono fun e w2 ⟨h1, h2⟩ => ⟨h1, h2.symm⟩) (fun w2 h2 => (fin w2 h2).1))
  have FIN := Lib.hid fin
  have hmf := makes
  clear fin kL h HF
  go_enter Try.func18, Try.ntmps18
  go_wp2_with fail
  refine HD.out.mono ?_
  rintro e w' ⟨rfl, w2, hq, hw⟩
  obtain ⟨f1, f2, f3⟩ := FIN.out w2 hq
  rw [hw] at f2 f3
  have c5 := f2.cell (i := 5) (v := .int .u64 0) rfl
  have F2 := Lib.hid f2
  have F3 := Lib.hid f3
  clear f1 f2 f3 hq hw FIN HD
  go_wp2_with fail
  go_ret
  exact ⟨rfl, F2.out, F3.out⟩

set_option maxRecDepth 100000 in
set_option maxHeartbeats 800000 in
/-- Get, made already. -/
theorem get_again (L : Nat) (mk : Value) (x : Int × Int) (w : World) (h : At w L mk (some x)) :
    Calls Try.prog 18 #[.pointer (some ⟨L, 0, none⟩)] w fun e w' => e = .returned (.int .u64 x.2) ∧ w = w' := by
  have kL : Blk w L #[.int .u32 1, .int .i32 0, .int .u32 0, mk, .int .i32 x.1, .int .u64 x.2] 75 := h
  have HD := Lib.hid (fun fv => do_done L fv w (kL.cell (i := 0) rfl))
  have c5 := kL.cell (i := 5) (v := .int .u64 x.2) rfl
  have hmf := makes
  clear kL h
  go_enter Try.func18, Try.ntmps18
  go_wp2_with fail
  refine (HD.out _).mono ?_
  rintro e w' ⟨rfl, rfl⟩
  go_wp2_with fail
  go_ret
  exact ⟨rfl, rfl⟩

/-- Runs, by the state. -/
theorem runs_at (L : Nat) (mk : Value) (st : Option (Int × Int)) (w : World) (h : At w L mk st) (hr : ∀ x, st = some x → 0 ≤ x.1 ∧ x.1 ≤ 1000) :
    Calls Try.prog 17 #[.pointer (some ⟨L, 0, none⟩)] w fun e w' => e = .returned (.int .i64 (match st with | none => 0 | some x => x.1)) ∧ w = w' := by
  cases st with
  | none => exact runs_any L 0 (by omega) (by omega) w (Blk.cell (show Blk _ _ _ _ from h) (i := 4) rfl)
  | some x => exact runs_any L x.1 (hr x rfl).1 (hr x rfl).2 w (Blk.cell (show Blk _ _ _ _ from h) (i := 4) rfl)

end Go.Proofs.Ytnllcbphfpfniaa.Lazy
