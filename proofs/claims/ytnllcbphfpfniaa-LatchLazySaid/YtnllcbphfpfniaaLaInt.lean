/- One goroutine: the contracts of a latch of int values: New, Set, Get. No condition but where the latch lies. -/
import Derived.Test.YtnllcbphfpfniaaOnce
set_option linter.unusedVariables false
set_option linter.unusedSimpArgs false
namespace Go.Proofs.Ytnllcbphfpfniaa.LaInt
open Go Go.RowKit Go.Proofs.Ytnllcbphfpfniaa.Blk Go.Conc.Locks Go.MuLone Go.Proofs.Ytnllcbphfpfniaa.Latch

/-- A latch in block L: without a value, or with v. -/
def At (w : World) (L : Nat) (st : Option Int) : Prop :=
  match st with
  | none => Blk w L #[.int .u32 0, .int .i32 0, .int .u32 0, .int .u32 0, .int .i64 0] 87
  | some v => Blk w L #[.int .u32 1, .int .i32 0, .int .u32 0, .int .u32 1, .int .i64 v] 87

theorem At.lt {w : World} {L : Nat} {st : Option Int} (h : At w L st) : L < w.heap.size := by
  cases st with
  | none => exact Blk.lt (show Blk _ _ _ _ from h)
  | some v => exact Blk.lt (show Blk _ _ _ _ from h)
theorem At.alloc {w : World} {L : Nat} {st : Option Int} (h : At w L st) (o : Obj) : At (w.alloc o) L st := by
  cases st with
  | none => exact Blk.alloc (show Blk _ _ _ _ from h) o
  | some v => exact Blk.alloc (show Blk _ _ _ _ from h) o
theorem At.grown {w w' : World} {L : Nat} {st : Option Int} (h : At w L st) {row : Option Nat} (hg : w.grownBy w' row) (hne : some L ≠ row) : At w' L st := by
  cases st with
  | none => exact Blk.grown (show Blk _ _ _ _ from h) hg hne
  | some v => exact Blk.grown (show Blk _ _ _ _ from h) hg hne
theorem At.drewN {w : World} {L : Nat} {st : Option Int} (h : At w L st) (n : Nat) : At (w.drewN n) L st := by
  cases st with
  | none => exact Blk.drewN (show Blk _ _ _ _ from h) n
  | some v => exact Blk.drewN (show Blk _ _ _ _ from h) n
theorem At.setCell {w : World} {L : Nat} {st : Option Int} (h : At w L st) {a : Addr} (hne : L ≠ a.block) (v : Value) : At (w.setCell a v) L st := by
  cases st with
  | none => exact Blk.other (show Blk _ _ _ _ from h) hne v
  | some u => exact Blk.other (show Blk _ _ _ _ from h) hne v

/-- New. -/
theorem new_any (w : World) : Calls Try.prog 27 #[] w fun e w' => e = .returned (.pointer (some ⟨w.heap.size, 0, none⟩)) ∧ w.alloc (.cells #[.int .u32 0, .int .i32 0, .int .u32 0, .int .u32 0, .int .i64 0] 87) = w' := by
  go_enter Try.func27, Try.ntmps27
  go_wp2
  go_ret
  exact ⟨rfl, rfl⟩

set_option maxHeartbeats 800000 in
/-- Set's own function. -/
theorem set_fn (L A B C : Nat) (v : Int) (x4 x3 x2 x1 x0 : Value) (w : World) (hL : Blk w L #[x0, x1, x2, x3, x4] 87) (hA : Blk w A #[.pointer (some ⟨L, 0, none⟩)] 67)
    (hB : Blk w B #[.int .i64 v] 3) (hC : Blk w C #[.bool false] 4) (LA : L ≠ A) (LB : L ≠ B) (LC : L ≠ C) (AC : A ≠ C) :
    Calls Try.prog 40 #[.pointer (some ⟨B, 0, none⟩), .pointer (some ⟨A, 0, none⟩), .pointer (some ⟨C, 0, none⟩)] w fun e w2 => e = .returned (.tuple #[]) ∧
      (((w.setCell ⟨L, 4, none⟩ (.int .i64 v)).setCell ⟨C, 0, none⟩ (.bool true)).drew.setCell ⟨L, 3, none⟩ (.int .u32 1)) = w2 := by
  have cA := hA.cell (i := 0) rfl
  have cB := hB.cell (i := 0) rfl
  have c4 := hL.cell (i := 4) rfl
  have z4 := hL.free 4
  have h1 := hC.other (a := ⟨L, 4, none⟩) (fun e => LC e.symm) (.int .i64 v)
  have cC := h1.cell (i := 0) rfl
  have zC := h1.free 0
  have h2 := (hA.other (a := ⟨L, 4, none⟩) (fun e => LA e.symm) (.int .i64 v)).other (a := ⟨C, 0, none⟩) AC (.bool true)
  have cA2 := h2.cell (i := 0) rfl
  have h3 := (hL.set 4 (.int .i64 v)).other (a := ⟨C, 0, none⟩) LC (.bool true)
  have c3 := h3.cell (i := 3) rfl
  have z3 := h3.free 3
  have HS := Lib.hid (store_plain ⟨L, 3, none⟩ x3 _ c3 z3)
  clear c3 z3 h1 h2 h3 hL hA hB hC
  go_enter Try.func40, Try.ntmps40
  go_wp2_with fail
  refine HS.out.mono ?_
  rintro e w2 ⟨rfl, rfl⟩
  go_wp2_with fail
  go_end0
  exact ⟨rfl, rfl⟩

set_option maxRecDepth 100000 in
set_option maxHeartbeats 1600000 in
/-- (*sync.Once).doSlow of Set's function, not yet done, the lock free. -/
theorem slow_set (L : Nat) (cap : Array Value) (Q : World → Prop) (w : World)
    (h0 : w.cell? ⟨L, 0, none⟩ = some (.int .u32 0)) (h1 : w.cell? ⟨L, 1, none⟩ = some (.int .i32 0)) (f0 : w.frozen? ⟨L, 0, none⟩ = false) (f1 : w.frozen? ⟨L, 1, none⟩ = false)
    (hcl : Calls Try.prog 40 cap (w.setCell ⟨L, 1, none⟩ (.int .i32 1)) fun e w2 => e = .returned (.tuple #[]) ∧ Q w2) (hQ : ∀ w2, Q w2 → Held L w2) :
    Calls Try.prog 36 #[.pointer (some ⟨L, 0, none⟩), .func (.func 40) #[] cap] w fun e w' => e = .returned (.tuple #[]) ∧ ∃ w2, Q w2 ∧ (w2.drew.setCell ⟨L, 0, none⟩ (.int .u32 1)).setCell ⟨L, 1, none⟩ (.int .i32 0) = w' := by
  have hl := load_any ⟨L, 0, none⟩ 0 (w.setCell ⟨L, 1, none⟩ (.int .i32 1)) ((World.cell?_setCell_other _ ⟨L, 1, none⟩ ⟨L, 0, none⟩ _ (by simp)).trans h0)
  have HC := Lib.hid hcl
  clear hcl
  have HQ := Lib.hid hQ
  clear hQ
  have HL := Lib.hid hl
  clear hl
  go_enter_defers Try.func36, Try.ntmps36
  go_wp2_with (go_at_call 47; refine (lock_free muLib ⟨L, 1, none⟩ _ h1 f1).mono ?_; rintro e w' ⟨rfl, rfl⟩)
  refine HL.out.mono ?_
  rintro e w' ⟨rfl, rfl⟩
  go_wp2_with fail
  refine HC.out.mono ?_
  rintro e w2 ⟨rfl, hq⟩
  have HH := HQ.out w2 hq
  go_wp2_with fail
  refine leaves_cons (f := 25) (args := #[.pointer (some ⟨L, 0, none⟩), .bool true]) (by simp) (by simp [go_sem]) ?_
  refine (store_deferred ⟨L, 0, none⟩ (.int .u32 0) .returning _ HH.1 HH.2.2.1).mono ?_
  rintro e u' w'' ⟨rfl, rfl, rfl⟩
  refine leaves_cons (f := 48) (args := #[.pointer (some ⟨L, 1, none⟩)]) (by simp [settle]) (by simp [go_sem]) ?_
  refine (unlock_deferred muLib ⟨L, 1, none⟩ _ _ ?_ ?_).mono ?_
  · refine (World.cell?_setCell_other _ ⟨L, 0, none⟩ ⟨L, 1, none⟩ _ (by simp)).trans ?_
    rw [World.cell?_drew]
    exact HH.2.1
  · have := HH.2.2.2
    simp [this]
  rintro e u' w'' ⟨rfl, rfl, rfl⟩
  have hfin : ∃ w3, Q w3 ∧ (w3.drew.setCell ⟨L, 0, none⟩ (.int .u32 1)).setCell ⟨L, 1, none⟩ (.int .i32 0) = (w2.drew.setCell ⟨L, 0, none⟩ (.int .u32 1)).setCell ⟨L, 1, none⟩ (.int .i32 0) := ⟨w2, hq, rfl⟩
  simpa [Leaves, settle, results, Try.results36] using hfin

set_option maxHeartbeats 800000 in
/-- (*sync.Once).Do of Set's function, not yet done. -/
theorem do_first (L : Nat) (cap : Array Value) (Q : World → Prop) (w : World)
    (h0 : w.cell? ⟨L, 0, none⟩ = some (.int .u32 0)) (h1 : w.cell? ⟨L, 1, none⟩ = some (.int .i32 0)) (f0 : w.frozen? ⟨L, 0, none⟩ = false) (f1 : w.frozen? ⟨L, 1, none⟩ = false)
    (hcl : Calls Try.prog 40 cap (w.setCell ⟨L, 1, none⟩ (.int .i32 1)) fun e w2 => e = .returned (.tuple #[]) ∧ Q w2) (hQ : ∀ w2, Q w2 → Held L w2) :
    Calls Try.prog 23 #[.pointer (some ⟨L, 0, none⟩), .func (.func 40) #[] cap] w fun e w' => e = .returned (.tuple #[]) ∧ ∃ w2, Q w2 ∧ (w2.drew.setCell ⟨L, 0, none⟩ (.int .u32 1)).setCell ⟨L, 1, none⟩ (.int .i32 0) = w' := by
  have HS := Lib.hid (slow_set L cap Q w h0 h1 f0 f1 hcl hQ)
  have HL := Lib.hid (load_any ⟨L, 0, none⟩ 0 w h0)
  clear h0 h1 f0 f1 hcl hQ
  go_enter Try.func23, Try.ntmps23
  go_wp2_with fail
  refine HL.out.mono ?_
  rintro e w' ⟨rfl, rfl⟩
  go_wp2_with fail
  refine HS.out.mono ?_
  rintro e w' ⟨rfl, hq⟩
  have HQ := Lib.hid hq
  clear hq
  go_wp2_with fail
  go_end0
  exact ⟨rfl, HQ.out⟩

set_option maxHeartbeats 800000 in
/-- .. and done already. -/
theorem do_done (L : Nat) (fv : Value) (w : World) (h0 : w.cell? ⟨L, 0, none⟩ = some (.int .u32 1)) :
    Calls Try.prog 23 #[.pointer (some ⟨L, 0, none⟩), fv] w fun e w' => e = .returned (.tuple #[]) ∧ w = w' := by
  have HL := Lib.hid (load_any ⟨L, 0, none⟩ 1 w h0)
  clear h0
  go_enter Try.func23, Try.ntmps23
  go_wp2_with fail
  refine HL.out.mono ?_
  rintro e w' ⟨rfl, rfl⟩
  go_wp2_with fail
  go_end0
  exact ⟨rfl, rfl⟩

theorem makes (fn : Fn) (first cap : Array Value) (w : World) : (Instr.makeFunc fn first cap).run Try.prog w = .ok (.func fn first cap) w := rfl

set_option maxRecDepth 100000 in
set_option maxHeartbeats 1600000 in
/-- Set, the first time. -/
theorem set_first (L : Nat) (v : Int) (w : World) (h : At w L none) :
    Calls Try.prog 28 #[.pointer (some ⟨L, 0, none⟩), .int .i64 v] w fun e w' => e = .returned (.bool true) ∧ At w' L (some v) ∧ w.grownBy w' (some L) := by
  have hlt := h.lt
  have hb : Blk w L #[.int .u32 0, .int .i32 0, .int .u32 0, .int .u32 0, .int .i64 0] 87 := h
  have kL := ((hb.alloc (.cells #[.pointer (some ⟨L, 0, none⟩)] 67)).alloc (.cells #[.int .i64 v] 3)).alloc (.cells #[.bool false] 4)
  have kA := ((Blk.new w #[.pointer (some ⟨L, 0, none⟩)] 67).alloc (.cells #[.int .i64 v] 3)).alloc (.cells #[.bool false] 4)
  have kB := (Blk.new (w.alloc (.cells #[.pointer (some ⟨L, 0, none⟩)] 67)) #[.int .i64 v] 3).alloc (.cells #[.bool false] 4)
  have kC := Blk.new ((w.alloc (.cells #[.pointer (some ⟨L, 0, none⟩)] 67)).alloc (.cells #[.int .i64 v] 3)) #[.bool false] 4
  have s1 : (w.alloc (.cells #[.pointer (some ⟨L, 0, none⟩)] 67)).heap.size = w.heap.size + 1 := by simp
  have s2 : ((w.alloc (.cells #[.pointer (some ⟨L, 0, none⟩)] 67)).alloc (.cells #[.int .i64 v] 3)).heap.size = w.heap.size + 2 := by simp
  rw [s1] at kB
  rw [s2] at kC
  have g : w.grownBy (((w.alloc (.cells #[.pointer (some ⟨L, 0, none⟩)] 67)).alloc (.cells #[.int .i64 v] 3)).alloc (.cells #[.bool false] 4)) (some L) := grown_trans (grown_trans (grown_alloc _ _ _) (grown_alloc _ _ _)) (grown_alloc _ _ _)
  have cA0 : (w.alloc (.cells #[.pointer (some ⟨L, 0, none⟩)] 67)).cell? ⟨w.heap.size, 0, none⟩ = some (.pointer (some ⟨L, 0, none⟩)) := by simp
  have cA3 := kA.cell (i := 0) rfl
  have fin : ∀ w2, w2 = (((((((w.alloc (.cells #[.pointer (some ⟨L, 0, none⟩)] 67)).alloc (.cells #[.int .i64 v] 3)).alloc (.cells #[.bool false] 4)).setCell ⟨L, 1, none⟩ (.int .i32 1)).setCell ⟨L, 4, none⟩ (.int .i64 v)).setCell ⟨w.heap.size + 2, 0, none⟩ (.bool true)).drew.setCell ⟨L, 3, none⟩ (.int .u32 1)) →
      Held L w2 ∧ At ((w2.drew.setCell ⟨L, 0, none⟩ (.int .u32 1)).setCell ⟨L, 1, none⟩ (.int .i32 0)) L (some v) ∧ w.grownBy ((w2.drew.setCell ⟨L, 0, none⟩ (.int .u32 1)).setCell ⟨L, 1, none⟩ (.int .i32 0)) (some L) ∧
      Blk ((w2.drew.setCell ⟨L, 0, none⟩ (.int .u32 1)).setCell ⟨L, 1, none⟩ (.int .i32 0)) (w.heap.size + 2) #[.bool true] 4 := by
    rintro w2 rfl
    have b1 := ((((kL.set 1 (.int .i32 1)).set 4 (.int .i64 v)).other (a := ⟨w.heap.size + 2, 0, none⟩) (by show L ≠ w.heap.size + 2; omega) (.bool true)).drew).set 3 (.int .u32 1)
    have c1 := ((((kC.other (a := ⟨L, 1, none⟩) (by show w.heap.size + 2 ≠ L; omega) (.int .i32 1)).other (a := ⟨L, 4, none⟩) (by show w.heap.size + 2 ≠ L; omega) (.int .i64 v)).set 0 (.bool true)).drew).other (a := ⟨L, 3, none⟩) (by show w.heap.size + 2 ≠ L; omega) (.int .u32 1)
    refine ⟨⟨b1.cell (i := 0) rfl, b1.cell (i := 1) rfl, b1.free 0, b1.free 1⟩, (b1.drew.set 0 (.int .u32 1)).set 1 (.int .i32 0), ?_, (c1.drew.other (a := ⟨L, 0, none⟩) (by show w.heap.size + 2 ≠ L; omega) _).other (a := ⟨L, 1, none⟩) (by show w.heap.size + 2 ≠ L; omega) _⟩
    have g1 := grown_new (grown_trans (grown_trans g (grown_set (B := L) _ 1 (.int .i32 1))) (grown_set (B := L) _ 4 (.int .i64 v))) (p := ⟨w.heap.size + 2, 0, none⟩) (by show w.heap.size ≤ w.heap.size + 2; omega) (.bool true)
    exact grown_trans (grown_trans (grown_trans (grown_trans (grown_trans g1 (grown_drew _ _)) (grown_set _ 3 _)) (grown_drew _ _)) (grown_set _ 0 _)) (grown_set _ 1 _)
  have HF := Lib.hid (set_fn L w.heap.size (w.heap.size + 1) (w.heap.size + 2) v _ _ _ _ _ _ (kL.set 1 (.int .i32 1)) (kA.other (a := ⟨L, 1, none⟩) (by show w.heap.size ≠ L; omega) _) (kB.other (a := ⟨L, 1, none⟩) (by show w.heap.size + 1 ≠ L; omega) _) (kC.other (a := ⟨L, 1, none⟩) (by show w.heap.size + 2 ≠ L; omega) _) (by omega) (by omega) (by omega) (by omega))
  have HD := Lib.hid (do_first L #[.pointer (some ⟨w.heap.size + 1, 0, none⟩), .pointer (some ⟨w.heap.size, 0, none⟩), .pointer (some ⟨w.heap.size + 2, 0, none⟩)] (fun w2 => w2 = (((((((w.alloc (.cells #[.pointer (some ⟨L, 0, none⟩)] 67)).alloc (.cells #[.int .i64 v] 3)).alloc (.cells #[.bool false] 4)).setCell ⟨L, 1, none⟩ (.int .i32 1)).setCell ⟨L, 4, none⟩ (.int .i64 v)).setCell ⟨w.heap.size + 2, 0, none⟩ (.bool true)).drew.setCell ⟨L, 3, none⟩ (.int .u32 1))) _
    (kL.cell (i := 0) rfl) (kL.cell (i := 1) rfl) (kL.free 0) (kL.free 1) (HF.out.mono fun e w2 ⟨h1, h2⟩ => ⟨h1, h2.symm⟩) (fun w2 h2 => (fin w2 h2).1))
  have FIN := Lib.hid fin
  have hmf := makes
  clear fin kL kA kB kC s1 s2 g hb h HF
  go_enter Try.func28, Try.ntmps28
  go_wp2_with fail
  refine HD.out.mono ?_
  rintro e w' ⟨rfl, w2, hq, hw⟩
  obtain ⟨f1, f2, f3, f4⟩ := FIN.out w2 hq
  rw [hw] at f2 f3 f4
  have c0 := f4.cell (i := 0) rfl
  have F2 := Lib.hid f2
  have F3 := Lib.hid f3
  clear f1 f2 f3 f4 hq hw FIN HD
  go_wp2_with fail
  go_ret
  exact ⟨rfl, F2.out, F3.out⟩

set_option maxRecDepth 100000 in
set_option maxHeartbeats 1600000 in
/-- Set, the latch having a value. -/
theorem set_again (L : Nat) (u v : Int) (w : World) (h : At w L (some u)) :
    Calls Try.prog 28 #[.pointer (some ⟨L, 0, none⟩), .int .i64 v] w fun e w' => e = .returned (.bool false) ∧ At w' L (some u) ∧ w.grownBy w' none := by
  have hb : Blk w L #[.int .u32 1, .int .i32 0, .int .u32 0, .int .u32 1, .int .i64 u] 87 := h
  have kL := ((hb.alloc (.cells #[.pointer (some ⟨L, 0, none⟩)] 67)).alloc (.cells #[.int .i64 v] 3)).alloc (.cells #[.bool false] 4)
  have kA := ((Blk.new w #[.pointer (some ⟨L, 0, none⟩)] 67).alloc (.cells #[.int .i64 v] 3)).alloc (.cells #[.bool false] 4)
  have kC := Blk.new ((w.alloc (.cells #[.pointer (some ⟨L, 0, none⟩)] 67)).alloc (.cells #[.int .i64 v] 3)) #[.bool false] 4
  have s2 : ((w.alloc (.cells #[.pointer (some ⟨L, 0, none⟩)] 67)).alloc (.cells #[.int .i64 v] 3)).heap.size = w.heap.size + 2 := by simp
  rw [s2] at kC
  have g : w.grownBy (((w.alloc (.cells #[.pointer (some ⟨L, 0, none⟩)] 67)).alloc (.cells #[.int .i64 v] 3)).alloc (.cells #[.bool false] 4)) none := grown_trans (grown_trans (grown_alloc _ _ _) (grown_alloc _ _ _)) (grown_alloc _ _ _)
  have cA0 : (w.alloc (.cells #[.pointer (some ⟨L, 0, none⟩)] 67)).cell? ⟨w.heap.size, 0, none⟩ = some (.pointer (some ⟨L, 0, none⟩)) := by simp
  have cA3 := kA.cell (i := 0) rfl
  have cC3 := kC.cell (i := 0) rfl
  have HD := fun fv => do_done L fv _ (kL.cell (i := 0) rfl)
  have HD := Lib.hid HD
  have KL := Lib.hid kL
  have G := Lib.hid g
  have hmf := makes
  clear kL kA kC s2 g hb h
  go_enter Try.func28, Try.ntmps28
  go_wp2_with fail
  refine (HD.out _).mono ?_
  rintro e w' ⟨rfl, rfl⟩
  go_wp2_with fail
  go_ret
  exact ⟨rfl, KL.out, G.out⟩

set_option maxHeartbeats 800000 in
/-- Get, without a value. -/
theorem get_none (L : Nat) (w : World) (h : At w L none) :
    Calls Try.prog 29 #[.pointer (some ⟨L, 0, none⟩)] w fun e w' => e = .returned (.tuple #[.int .i64 0, .bool false]) ∧ w = w' := by
  have hb : Blk w L #[.int .u32 0, .int .i32 0, .int .u32 0, .int .u32 0, .int .i64 0] 87 := h
  have HL := Lib.hid (load_any ⟨L, 3, none⟩ 0 w (hb.cell (i := 3) rfl))
  clear hb h
  go_enter Try.func29, Try.ntmps29
  go_wp2_with fail
  refine HL.out.mono ?_
  rintro e w' ⟨rfl, rfl⟩
  go_wp2_with fail
  go_ret2
  exact ⟨rfl, rfl⟩

set_option maxHeartbeats 800000 in
/-- Get, with one. -/
theorem get_some (L : Nat) (u : Int) (w : World) (h : At w L (some u)) :
    Calls Try.prog 29 #[.pointer (some ⟨L, 0, none⟩)] w fun e w' => e = .returned (.tuple #[.int .i64 u, .bool true]) ∧ w = w' := by
  have hb : Blk w L #[.int .u32 1, .int .i32 0, .int .u32 0, .int .u32 1, .int .i64 u] 87 := h
  have HL := Lib.hid (load_any ⟨L, 3, none⟩ 1 w (hb.cell (i := 3) rfl))
  have c4 := hb.cell (i := 4) rfl
  clear hb h
  go_enter Try.func29, Try.ntmps29
  go_wp2_with fail
  refine HL.out.mono ?_
  rintro e w' ⟨rfl, rfl⟩
  go_wp2_with fail
  go_ret2
  exact ⟨rfl, rfl⟩
end Go.Proofs.Ytnllcbphfpfniaa.LaInt
