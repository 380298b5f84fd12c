/- Commands out of bytes: cmds.Get of no In, Decode, and the chapter's Get, Decode. -/
import Derived.Test.YtlpkandfmbnlnaaDoorCmdsG
set_option linter.unusedVariables false
set_option linter.unusedSimpArgs false
set_option maxRecDepth 100000
namespace Go.Proofs.YtlpkandfmbnlnaaDoor.Fix
open Go Go.RowKit Go.Proofs.YtlpkandfmbnlnaaDoor.Mem Go.Proofs.YtlpkandfmbnlnaaDoor.Num
/-- A slice that is handed on, or nil of any capacity. -/
def Slw (w : World) (v : Value) (l : List Int) : Prop := Sl w .u8 v l ∨ ∃ c, v = .slice none 0 c ∧ l = []
theorem Slw.below {w w' : World} {v : Value} {l : List Int} (h : Slw w v l) (hb : Below w.heap.size w w') : Slw w' v l := h.imp (fun h => h.below hb) id
theorem clonew_any (v : Value) (l : List Int) (w : World) (hs : Slw w v l) (hl : l.length ≤ 1000000) :
    Calls Tryd.prog 80 #[v] w fun e w' => ∃ u, e = .returned u ∧ Own w' w.heap.size 5 .u8 u l ∧ Below w.heap.size w w' := by
  rcases hs with hs | ⟨c, rfl, rfl⟩
  · exact clone_any v l w hs hl
  · have hq := q27
    go_enter Tryd.func80, Tryd.ntmps80
    go_wp2_with fail
    go_ret
    exact ⟨_, rfl, Own.nil _ _ _ _, Below.refl _ _⟩
theorem ofw_any (v : Value) (l : List Int) (w : World) (hs : Slw w v l) (hl : l.length ≤ 1000000) :
    Calls Tryd.prog 50 #[v] w fun e w' => ∃ I, e = .returned (.pointer (some ⟨I, 0, none⟩)) ∧ In w' I l 0 ∧ w.heap.size ≤ I ∧ Below w.heap.size w w' := by
  have HC := Lib.hid (clonew_any v l w hs hl)
  clear hs
  go_enter Tryd.func50, Tryd.ntmps50
  go_wp2_with fail
  refine HC.out.mono ?_
  rintro e w' ⟨u, rfl, h1, h2⟩
  obtain ⟨A, c, rfl, hc, hr, hn⟩ := Own.look2 h1
  have HR := Lib.hid hr
  have HN := Lib.hid hn
  have H2 := Lib.hid h2
  clear h1 h2 hr hn
  go_wp2_with fail
  go_ret
  exact ⟨_, rfl, In.new hc HR.out HN.out, H2.out.size, H2.out.alloc H2.out.size _⟩
end Go.Proofs.YtlpkandfmbnlnaaDoor.Fix
namespace Go.Proofs.YtlpkandfmbnlnaaDoor.Cmd
open Go Go.RowKit Go.Proofs.YtlpkandfmbnlnaaDoor.Mem Go.Proofs.YtlpkandfmbnlnaaDoor.Num Go.Proofs.YtlpkandfmbnlnaaDoor.Fix Go.Proofs.YtlpkandfmbnlnaaDoor.Ref

set_option maxHeartbeats 1000000 in
/-- cmds.Get of no In. -/
theorem cget_nil (w : World) : Calls Tryd.prog 52 #[.pointer none] w fun e w' => e = .returned (.tuple #[C.zero.v, .int .i64 2]) ∧ Below w.heap.size w w' := by
  have HR := fun W => Lib.hid (raw_nil 11 W (by decide))
  have HOf := fun W => Lib.hid (of_any (.slice none 0 0) [] W (Sl.nil _ _) (by simp))
  have HErr := fun W => Lib.hid (err_nil W)
  have hk := Blk.new w #[.int .i64 0, .int .i64 0, .int .u64 0, .int .i64 0] 24
  go_enter Tryd.func52, Tryd.ntmps52
  go_wp2_with fail
  refine (HR _).out.mono ?_
  rintro e w' ⟨rfl, rfl⟩
  go_wp2_with fail
  refine (HOf _).out.mono ?_
  rintro e w2 ⟨J, rfl, h1, h2, h3⟩
  have hk2 := hk.below h3 (by simp)
  have HK2 := Lib.hid hk2
  have HB := Lib.hid (show Below w.heap.size w w2 from (show Below w.heap.size w (w.alloc (.cells #[.int .i64 0, .int .i64 0, .int .u64 0, .int .i64 0] 24)) by go_grown).trans (h3.mono (by simp)))
  have c0 := hk2.cell (i := 0) (v := .int .i64 0) rfl
  have c1 := hk2.cell (i := 1) (v := .int .i64 0) rfl
  have c2 := hk2.cell (i := 2) (v := .int .u64 0) rfl
  have c3 := hk2.cell (i := 3) (v := .int .i64 0) rfl
  have z0 := hk2.free 0
  have z1 := hk2.free 1
  have z2 := hk2.free 2
  have z3 := hk2.free 3
  clear h1 h2 h3 hk2 hk
  go_wp2_with fail
  refine (HErr _).out.mono ?_
  rintro e w' ⟨rfl, rfl⟩
  go_wp2_with fail
  have rb := setC_blk HK2.out C.zero
  have r0 := rb.cell (i := 0) (v := .int .i64 0) rfl
  have r1 := rb.cell (i := 1) (v := .int .i64 0) rfl
  have r2 := rb.cell (i := 2) (v := .int .u64 0) rfl
  have r3 := rb.cell (i := 3) (v := .int .i64 0) rfl
  unfold setC C.zero at r0 r1 r2 r3
  refine bodyPost_ret (v := .tuple #[.agg #[.int .i64 0, .int .i64 0, .int .u64 0, .int .i64 0], .int .i64 2]) (by simp [results, Tryd.results52, go_sem, r0, r1, r2, r3]) rfl ?_
  exact ⟨rfl, (((HB.out.setCell (p := ⟨w.heap.size, 0, none⟩) (Nat.le_refl _) _).setCell (p := ⟨w.heap.size, 1, none⟩) (Nat.le_refl _) _).setCell (p := ⟨w.heap.size, 2, none⟩) (Nat.le_refl _) _).setCell (p := ⟨w.heap.size, 3, none⟩) (Nat.le_refl _) _⟩

theorem nL_len (l : List Int) (h : gE l 0 = 0) : (nL l 0 11).length = l.length - 11 ∧ 11 ≤ l.length := by
  unfold gE at h
  split at h
  · contradiction
  · rename_i h1
    have h1 : nE l 0 11 = 0 := by simpa using h1
    unfold nE at h1
    simp only [ne_eq, not_true_eq_false, if_false] at h1
    split at h1
    · cases h1
    · rename_i h2
      unfold nL
      rw [if_neg (by simp), if_neg h2]
      exact ⟨by simp, by omega⟩

set_option maxHeartbeats 2000000 in
/-- cmds.Decode. -/
theorem decode_any (v : Value) (l : List Int) (w : World) (hs : Slw w v l) (hl : l.length ≤ 1000000) (hb : Bytes l) :
    Calls Tryd.prog 16 #[v] w fun e w' => e = .returned (.tuple #[(dC l).v, .int .i64 (dE l)]) ∧ Below w.heap.size w w' := by
  have HOf := Lib.hid (ofw_any v l (w.alloc (.cells #[.int .i64 0, .int .i64 0, .int .u64 0, .int .i64 0] 24)) (hs.below (by go_grown)) hl)
  have HG := fun I W h => Lib.hid (cget_any I l 0 W h hl hb)
  have HLeft := fun I l e W h => Lib.hid (left_any I l e W h)
  have hk := Blk.new w #[.int .i64 0, .int .i64 0, .int .u64 0, .int .i64 0] 24
  have HK := Lib.hid hk
  clear hs hl hb hk
  have hlen := nL_len l
  have HLen := Lib.hid hlen
  clear hlen
  have HdC : Hid (dC l = if gE l 0 = 0 ∧ l.length = 11 then gC l 0 else C.zero) := Lib.hid rfl
  have HdE : Hid (dE l = if gE l 0 ≠ 0 then gE l 0 else if l.length = 11 then 0 else 4) := Lib.hid rfl
  generalize hge : gE l 0 = ge at *
  clear hge
  generalize hdc : dC l = dc at *
  clear hdc
  generalize hde : dE l = de at *
  clear hde
  generalize hgc : gC l 0 = gc at *
  clear hgc
  generalize hnl : nL l 0 11 = nl at *
  clear hnl
  obtain ⟨x0, x1, x2, x3⟩ := gc
  unfold C.v at HG
  simp only at HG
  go_enter Tryd.func16, Tryd.ntmps16
  go_wp2_with fail
  refine HOf.out.mono ?_
  rintro e w1 ⟨I, rfl, h1, h2, h3⟩
  have HGG := HG I w1 h1
  have HI := Lib.hid h2
  have HB := Lib.hid h3
  clear h1 h2 h3
  go_wp2_with fail
  refine HGG.out.mono ?_
  rintro e w2 ⟨rfl, h1, h2⟩
  have hk2 := (HK.out.below HB.out (by simp)).grown h2 (by have := HI.out; simp at this; simp; omega)
  have hk3 := hk2.alloc (.cells #[.int .i64 x0, .int .i64 x1, .int .u64 x2, .int .i64 x3] 24)
  have hb2 : Below w.heap.size w w2 := ((show Below w.heap.size w (w.alloc (.cells #[.int .i64 0, .int .i64 0, .int .u64 0, .int .i64 0] 24)) by go_grown).trans (HB.out.mono (by simp))).grown h2 (by have := HB.out.size; simp at this; omega) (fun k e => by have e2 : I = k := Option.some.inj e; have := HI.out; simp at this; omega)
  have HK3 := Lib.hid hk3
  have HB2 := Lib.hid hb2
  have HL := HLeft I nl _ (w2.alloc (.cells #[.int .i64 x0, .int .i64 x1, .int .u64 x2, .int .i64 x3] 24)) (h1.below (by go_grown))
  have c0 := hk3.cell (i := 0) (v := .int .i64 0) rfl
  have c1 := hk3.cell (i := 1) (v := .int .i64 0) rfl
  have c2 := hk3.cell (i := 2) (v := .int .u64 0) rfl
  have c3 := hk3.cell (i := 3) (v := .int .i64 0) rfl
  have z0 := hk3.free 0
  have z1 := hk3.free 1
  have z2 := hk3.free 2
  have z3 := hk3.free 3
  clear h1 h2 hk2 hk3 hb2
  have fin : ∀ c : C, Below w.heap.size w (setC (w2.alloc (.cells #[.int .i64 x0, .int .i64 x1, .int .u64 x2, .int .i64 x3] 24)) w.heap.size c) := fun c =>
    ((((HB2.out.alloc HB2.out.size _).setCell (p := ⟨w.heap.size, 0, none⟩) (Nat.le_refl _) _).setCell (p := ⟨w.heap.size, 1, none⟩) (Nat.le_refl _) _).setCell (p := ⟨w.heap.size, 2, none⟩) (Nat.le_refl _) _).setCell (p := ⟨w.heap.size, 3, none⟩) (Nat.le_refl _) _
  have FIN := Lib.hid fin
  have RB := fun c => Lib.hid (setC_blk HK3.out c)
  clear fin
  have rz0 := (RB C.zero).out.cell (i := 0) (v := .int .i64 0) rfl
  have rz1 := (RB C.zero).out.cell (i := 1) (v := .int .i64 0) rfl
  have rz2 := (RB C.zero).out.cell (i := 2) (v := .int .u64 0) rfl
  have rz3 := (RB C.zero).out.cell (i := 3) (v := .int .i64 0) rfl
  have rx0 := (RB ⟨x0, x1, x2, x3⟩).out.cell (i := 0) (v := .int .i64 x0) rfl
  have rx1 := (RB ⟨x0, x1, x2, x3⟩).out.cell (i := 1) (v := .int .i64 x1) rfl
  have rx2 := (RB ⟨x0, x1, x2, x3⟩).out.cell (i := 2) (v := .int .u64 x2) rfl
  have rx3 := (RB ⟨x0, x1, x2, x3⟩).out.cell (i := 3) (v := .int .i64 x3) rfl
  unfold setC at rz0 rz1 rz2 rz3 rx0 rx1 rx2 rx3
  unfold C.zero at rz0 rz1 rz2 rz3
  have RZ := Lib.hid (And.intro rz0 (And.intro rz1 (And.intro rz2 rz3)))
  have RX := Lib.hid (And.intro rx0 (And.intro rx1 (And.intro rx2 rx3)))
  clear rz0 rz1 rz2 rz3 rx0 rx1 rx2 rx3
  by_cases hg : ge = 0
  · obtain ⟨l1, l2⟩ := HLen.out hg
    by_cases h11 : l.length = 11
    · have D1 := Lib.hid (HdC.out.trans (if_pos ⟨hg, h11⟩))
      have D2 := Lib.hid (HdE.out.trans ((if_neg (by simp [hg])).trans (if_pos h11)))
      have hnl : nl.length = 0 := by omega
      subst hg
      rw [hnl] at HL
      go_wp2_with fail
      refine HL.out.mono ?_
      rintro e w' ⟨rfl, rfl⟩
      go_wp2_with fail
      refine bodyPost_ret (v := .tuple #[.agg #[.int .i64 x0, .int .i64 x1, .int .u64 x2, .int .i64 x3], .int .i64 0]) (by simp [results, Tryd.results16, go_sem, RX.out.1, RX.out.2.1, RX.out.2.2.1, RX.out.2.2.2]) rfl ?_
      rw [D1.out, D2.out]
      exact ⟨rfl, FIN.out ⟨x0, x1, x2, x3⟩⟩
    · have D1 := Lib.hid (HdC.out.trans (if_neg (fun h => h11 h.2)))
      have D2 := Lib.hid (HdE.out.trans ((if_neg (by simp [hg])).trans (if_neg h11)))
      have hnl : 0 < nl.length := by omega
      subst hg
      go_wp2_with fail
      refine HL.out.mono ?_
      rintro e w' ⟨rfl, rfl⟩
      go_wp2_with fail
      refine bodyPost_ret (v := .tuple #[.agg #[.int .i64 0, .int .i64 0, .int .u64 0, .int .i64 0], .int .i64 4]) (by simp [results, Tryd.results16, go_sem, RZ.out.1, RZ.out.2.1, RZ.out.2.2.1, RZ.out.2.2.2]) rfl ?_
      rw [D1.out, D2.out]
      exact ⟨rfl, FIN.out C.zero⟩
  · have D1 := Lib.hid (HdC.out.trans (if_neg (fun h => hg h.1)))
    have D2 := Lib.hid (HdE.out.trans (if_pos hg))
    have hb1 : (ge != 0) = true := by simp [hg]
    clear hg
    go_wp2_with fail
    refine bodyPost_ret (v := .tuple #[.agg #[.int .i64 0, .int .i64 0, .int .u64 0, .int .i64 0], .int .i64 ge]) (by simp [results, Tryd.results16, go_sem, RZ.out.1, RZ.out.2.1, RZ.out.2.2.1, RZ.out.2.2.2]) rfl ?_
    rw [D1.out, D2.out]
    exact ⟨rfl, FIN.out C.zero⟩

end Go.Proofs.YtlpkandfmbnlnaaDoor.Cmd
