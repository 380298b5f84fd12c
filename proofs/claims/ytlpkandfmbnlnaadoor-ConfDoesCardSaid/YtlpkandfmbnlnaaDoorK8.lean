/- What the proof of the claim leans on, of these texts: GMade, GUsed, Q13, GCan; only what is used. -/
import Derived.Deep.RegionWith
import Derived.Handy
import Derived.Laws.StructEq
import Derived.Lib.Hide
import Derived.Lib.SmallJoins
import Derived.LoopTactic
import Derived.RegionCalls
import Derived.RegionTactic
import Derived.WalkKit
import Derived.Test.YtlpkandfmbnlnaaDoorK1
import Derived.Test.YtlpkandfmbnlnaaDoorK2
import Derived.Test.YtlpkandfmbnlnaaDoorK3
import Derived.Test.YtlpkandfmbnlnaaDoorK4
import Derived.Test.YtlpkandfmbnlnaaDoorK5
import Derived.Test.YtlpkandfmbnlnaaDoorK6
import Derived.Test.YtlpkandfmbnlnaaDoorK7
namespace Go.Proofs.YtlpkandfmbnlnaaDoor
end Go.Proofs.YtlpkandfmbnlnaaDoor
namespace Go.Proofs.YtlpkandfmbnlnaaDoor.Cmd
end Go.Proofs.YtlpkandfmbnlnaaDoor.Cmd
namespace Go.Proofs.YtlpkandfmbnlnaaDoor.Fix
end Go.Proofs.YtlpkandfmbnlnaaDoor.Fix
namespace Go.Proofs.YtlpkandfmbnlnaaDoor.Laid
end Go.Proofs.YtlpkandfmbnlnaaDoor.Laid
namespace Go.Proofs.YtlpkandfmbnlnaaDoor.Mem
end Go.Proofs.YtlpkandfmbnlnaaDoor.Mem
namespace Go.Proofs.YtlpkandfmbnlnaaDoor.Num
end Go.Proofs.YtlpkandfmbnlnaaDoor.Num
namespace Go.Proofs.YtlpkandfmbnlnaaDoor.Opn
end Go.Proofs.YtlpkandfmbnlnaaDoor.Opn
namespace Go.Proofs.YtlpkandfmbnlnaaDoor.Q
end Go.Proofs.YtlpkandfmbnlnaaDoor.Q
namespace Go.Proofs.YtlpkandfmbnlnaaDoor.R
end Go.Proofs.YtlpkandfmbnlnaaDoor.R
namespace Go.Proofs.YtlpkandfmbnlnaaDoor.Ref
end Go.Proofs.YtlpkandfmbnlnaaDoor.Ref
namespace Go.Proofs.YtlpkandfmbnlnaaDoor.Str
end Go.Proofs.YtlpkandfmbnlnaaDoor.Str
namespace Go.Proofs.YtlpkandfmbnlnaaDoor.Txt
end Go.Proofs.YtlpkandfmbnlnaaDoor.Txt
namespace Go.Proofs.YtlpkandfmbnlnaaDoor.confDoes
end Go.Proofs.YtlpkandfmbnlnaaDoor.confDoes
namespace Go.Proofs.YtlpkandfmbnlnaaDoorW.PrintLast
end Go.Proofs.YtlpkandfmbnlnaaDoorW.PrintLast
namespace Go.Proofs.YtlpkandfmbnlnaaDoorW.PrintMore
end Go.Proofs.YtlpkandfmbnlnaaDoorW.PrintMore
namespace Go.Proofs.YtlpkandfmbnlnaaDoorW.PrintWords
end Go.Proofs.YtlpkandfmbnlnaaDoorW.PrintWords
section
namespace Go.Proofs.YtlpkandfmbnlnaaDoor.Q
open Go.RowKit Go.Proofs.YtlpkandfmbnlnaaDoor.Q Go.Proofs.YtlpkandfmbnlnaaDoorW.PrintWords Go.Proofs.YtlpkandfmbnlnaaDoorW.PrintLast Go.Proofs.YtlpkandfmbnlnaaDoorW.PrintMore
open Go.Proofs.YtlpkandfmbnlnaaDoor.R
set_option linter.unusedVariables false
set_option linter.unusedSimpArgs false
set_option maxRecDepth 100000
theorem skip_step2 {P : Program} {ops : Array Oper} {o : Oper} {a : Act} {Q : Exit → Act → World → Prop} {Kc : Act → World → Prop} {W w1 : World} (hw : Region.wanted o (yielded ops a.tmps) = true) (hN : o.dst = none) (hrun : (execOp a.eval o).run P W = .ok .skip w1) (h : Kc a w1) : if Region.wanted o (yielded ops a.tmps) = true then Oper.wp P o a W Kc Q else Kc (a.put none undef) W := by
 rw [if_pos hw]
 unfold Oper.wp
 rw [hrun]
 show Kc (a.put o.dst undef) w1
 rw [hN]
 exact h
theorem below_of_grown {w w' : World} {n c : Nat} (h : w.grownBy w' (Value.slice none n c).ownBlock) : Below w.heap.size w w' := ⟨h.os, h.tape, h.output, h.size, fun i hi => h.block i hi (by simp [Value.ownBlock])⟩
def madeOf (k : Nat) (x : S54) (c0 c3 : Int) : Option S54 :=
 if x.f2.length ≤ 1000000 then
  if c0 = 1 then (if x.f4 = c3 then some ⟨x.f0, IntKind.u64.wrap (x.f1 + 1), x.f2, x.f3, 0⟩ else
   if 0 < x.f2.length then (catenaryref04_Without.f k x.f2 c3).bind fun z => some ⟨x.f0, IntKind.u64.wrap (x.f1 + 1), z, (if rd x.f2 (x.f2.length - 1) = c3 then false else x.f3), x.f4⟩ else none)
  else if c0 = 2 then some ⟨x.f0, IntKind.u64.wrap (x.f1 + 1), x.f2, x.f3, c3⟩
  else if c0 = 3 then some ⟨x.f0, IntKind.u64.wrap (x.f1 + 1), x.f2 ++ [c3], true, 0⟩
  else some ⟨x.f0, IntKind.u64.wrap (x.f1 + 1), x.f2, false, x.f4⟩
 else none
set_option maxHeartbeats 40000000 in
theorem made_any (k : Nat) (x : S54) (A : Option Addr) (c : Nat) (m0 m1 m2 m3 : Int) (r : S54) (w : World) (hr : Kd.C (Kd.int .i64) w A x.f2.length x.f2) (hc : x.f2.length ≤ c) (h : madeOf k x m0 m3 = some r) :
  Calls Tryd.prog 65 #[.agg #[.int .i64 x.f0, .int .u64 x.f1, .slice A x.f2.length c, .bool x.f3, .int .i64 x.f4], .agg #[.int .i64 m0, .int .i64 m1, .int .u64 m2, .int .i64 m3]] w fun e w' => ∃ v2_ : Value, e = .returned (.agg #[.int .i64 r.f0, .int .u64 r.f1, v2_, .bool r.f3, .int .i64 r.f4]) ∧ Kd.R (Kd.int .i64) 3 w' w.heap.size (fun _ => True) v2_ r.f2 ∧ Below w.heap.size w w' := by
 unfold madeOf at h
 by_cases hl : x.f2.length ≤ 1000000
 rotate_left
 ·rw [if_neg hl] at h
  cases h
 rw [if_pos hl] at h
 obtain ⟨W1, hW1⟩ : ∃ W1, W1 = ((w.alloc (.cells #[.int .i64 x.f0, .int .u64 x.f1, .slice A x.f2.length c, .bool x.f3, .int .i64 x.f4] 54)).alloc (.cells #[.int .i64 m0, .int .i64 m1, .int .u64 m2, .int .i64 m3] 24)).alloc (.cells #[.int .i64 0, .int .u64 0, .slice none 0 0, .bool false, .int .i64 0] 54) := ⟨_, rfl⟩
 have hsz : W1.heap.size = w.heap.size + 1 + 1 + 1 := by rw [hW1]; simp
 have hB : Below w.heap.size w W1 := by rw [hW1]; go_grown
 have b2 : W1.heap[w.heap.size]? = some (.cells #[.int .i64 x.f0, .int .u64 x.f1, .slice A x.f2.length c, .bool x.f3, .int .i64 x.f4] 54) := by rw [hW1]; exact blk_alloc (blk_alloc (blk_new _ _) _) _
 have b3 : W1.heap[w.heap.size + 1]? = some (.cells #[.int .i64 m0, .int .i64 m1, .int .u64 m2, .int .i64 m3] 24) := by
  rw [hW1]
  have h := blk_alloc (blk_new (w.alloc (.cells #[.int .i64 x.f0, .int .u64 x.f1, .slice A x.f2.length c, .bool x.f3, .int .i64 x.f4] 54)) (.cells #[.int .i64 m0, .int .i64 m1, .int .u64 m2, .int .i64 m3] 24)) (.cells #[.int .i64 0, .int .u64 0, .slice none 0 0, .bool false, .int .i64 0] 54)
  simpa using h
 have b4 : W1.heap[w.heap.size + 2]? = some (.cells #[.int .i64 0, .int .u64 0, .slice none 0 0, .bool false, .int .i64 0] 54) := by
  rw [hW1]
  have h := blk_new ((w.alloc (.cells #[.int .i64 x.f0, .int .u64 x.f1, .slice A x.f2.length c, .bool x.f3, .int .i64 x.f4] 54)).alloc (.cells #[.int .i64 m0, .int .i64 m1, .int .u64 m2, .int .i64 m3] 24)) (.cells #[.int .i64 0, .int .u64 0, .slice none 0 0, .bool false, .int .i64 0] 54)
  simpa using h
 have HF := Lib.hid (Kd.F_below (Kd.C_F (Kd.heap_int .i64) hr) hB)
 have HB := Lib.hid hB
 have B2 := Lib.hid b2
 have B3 := Lib.hid b3
 have B4 := Lib.hid b4
 have HM := Lib.hid h
 have HL := Lib.hid hl
 have HC := Lib.hid hc
 clear b2 b3 b4 hB h hr hl hc
 go_enter Tryd.func65, Tryd.ntmps65
 go_wp2_with fail
 rw [← hW1]
 refine start_ (n := 15) (S := fun w' => (w'.cell? ⟨w.heap.size, 0, none⟩ = some (.int .i64 x.f0) ∧ w'.cell? ⟨w.heap.size, 1, none⟩ = some (.int .u64 x.f1) ∧ w'.cell? ⟨w.heap.size, 2, none⟩ = some (.slice A x.f2.length c) ∧ w'.cell? ⟨w.heap.size, 3, none⟩ = some (.bool x.f3) ∧ w'.cell? ⟨w.heap.size, 4, none⟩ = some (.int .i64 x.f4))) (ds := [14]) #[false, false, false, false, false, false, false, false, false, false, false, false, false, false, false] (by kernel_rfl) rfl rfl ⟨(blk_cell B2.out 0).trans rfl, (blk_cell B2.out 1).trans rfl, (blk_cell B2.out 2).trans rfl, (blk_cell B2.out 3).trans rfl, (blk_cell B2.out 4).trans rfl⟩ (fun hHeld => ?_)
 have HX : Hid (Below W1.heap.size W1 W1.drew) := Lib.hid (Below.refl _ _).drew
 generalize W1.drew = X at HX hHeld ⊢
 refine pure_ (i := 0) (N := some 6) (v := ?_) (a' := ?_) #[true, false, false, false, false, false, false, false, false, false, false, false, false, false, false] rfl rfl (by kernel_rfl) (fun _ _ _ h => h) (Or.inl ⟨by rfl, ?_⟩) ?_ ?_
 rotate_left
 ·intro w'
  go_simp
  with_reducible rfl
 rotate_left
 ·simp only [Act.put, List.setIfInBounds_toArray, List.set_cons_zero, List.set_cons_succ, i64_w, i32_w]
  rfl
 refine pure_ (i := 2) (N := some 8) (v := ?_) (a' := ?_) #[true, false, true, false, false, false, false, false, false, false, false, false, false, false, false] rfl rfl (by kernel_rfl) (fun _ _ _ h => h) (Or.inl ⟨by rfl, ?_⟩) ?_ ?_
 rotate_left
 ·intro w'
  go_simp
  with_reducible rfl
 rotate_left
 ·simp only [Act.put, List.setIfInBounds_toArray, List.set_cons_zero, List.set_cons_succ, i64_w, i32_w]
  rfl
 refine pure_ (i := 5) (N := some 11) (v := ?_) (a' := ?_) #[true, false, true, false, false, true, false, false, false, false, false, false, false, false, false] rfl rfl (by kernel_rfl) (fun _ _ _ h => h) (Or.inl ⟨by rfl, ?_⟩) ?_ ?_
 rotate_left
 ·intro w'
  go_simp
  with_reducible rfl
 rotate_left
 ·simp only [Act.put, List.setIfInBounds_toArray, List.set_cons_zero, List.set_cons_succ, i64_w, i32_w]
  rfl
 refine pure_ (i := 8) (N := some 14) (v := ?_) (a' := ?_) #[true, false, true, false, false, true, false, false, true, false, false, false, false, false, false] rfl rfl (by kernel_rfl) (fun _ _ _ h => h) (Or.inl ⟨by rfl, ?_⟩) ?_ ?_
 rotate_left
 ·intro w'
  go_simp
  with_reducible rfl
 rotate_left
 ·simp only [Act.put, List.setIfInBounds_toArray, List.set_cons_zero, List.set_cons_succ, i64_w, i32_w]
  rfl
 refine pure_ (i := 10) (N := some 16) (v := ?_) (a' := ?_) #[true, false, true, false, false, true, false, false, true, false, true, false, false, false, false] rfl rfl (by kernel_rfl) (fun _ _ _ h => h) (Or.inl ⟨by rfl, ?_⟩) ?_ ?_
 rotate_left
 ·intro w'
  go_simp
  with_reducible rfl
 rotate_left
 ·simp only [Act.put, List.setIfInBounds_toArray, List.set_cons_zero, List.set_cons_succ, i64_w, i32_w]
  rfl
 refine take_ (i := 1) (N := some 7) (v := ?_) (a' := ?_) #[true, true, true, false, false, true, false, false, true, false, true, false, false, false, false] rfl rfl (by kernel_rfl) (fun _ _ _ h => h) (Or.inl ⟨by rfl, ?_⟩) hHeld ?_ ?_
 rotate_left
 ·rintro w' ⟨s0, s1, s2, s3, s4⟩
  go_simp
  with_reducible rfl
 rotate_left
 ·simp only [Act.put, List.setIfInBounds_toArray, List.set_cons_zero, List.set_cons_succ, i64_w, i32_w]
  rfl
 refine take_ (i := 3) (N := some 9) (v := ?_) (a' := ?_) #[true, true, true, true, false, true, false, false, true, false, true, false, false, false, false] rfl rfl (by kernel_rfl) (fun _ _ _ h => h) (Or.inl ⟨by rfl, ?_⟩) hHeld ?_ ?_
 rotate_left
 ·rintro w' ⟨s0, s1, s2, s3, s4⟩
  go_simp
  with_reducible rfl
 rotate_left
 ·simp only [Act.put, List.setIfInBounds_toArray, List.set_cons_zero, List.set_cons_succ, i64_w, i32_w]
  rfl
 refine take_ (i := 6) (N := some 12) (v := ?_) (a' := ?_) #[true, true, true, true, false, true, true, false, true, false, true, false, false, false, false] rfl rfl (by kernel_rfl) (fun _ _ _ h => h) (Or.inl ⟨by rfl, ?_⟩) hHeld ?_ ?_
 rotate_left
 ·rintro w' ⟨s0, s1, s2, s3, s4⟩
  go_simp
  with_reducible rfl
 rotate_left
 ·simp only [Act.put, List.setIfInBounds_toArray, List.set_cons_zero, List.set_cons_succ, i64_w, i32_w]
  rfl
 refine take_ (i := 9) (N := some 15) (v := ?_) (a' := ?_) #[true, true, true, true, false, true, true, false, true, true, true, false, false, false, false] rfl rfl (by kernel_rfl) (fun _ _ _ h => h) (Or.inl ⟨by rfl, ?_⟩) hHeld ?_ ?_
 rotate_left
 ·rintro w' ⟨s0, s1, s2, s3, s4⟩
  go_simp
  with_reducible rfl
 rotate_left
 ·simp only [Act.put, List.setIfInBounds_toArray, List.set_cons_zero, List.set_cons_succ, i64_w, i32_w]
  rfl
 refine take_ (i := 11) (N := some 17) (v := ?_) (a' := ?_) #[true, true, true, true, false, true, true, false, true, true, true, true, false, false, false] rfl rfl (by kernel_rfl) (fun _ _ _ h => h) (Or.inl ⟨by rfl, ?_⟩) hHeld ?_ ?_
 rotate_left
 ·rintro w' ⟨s0, s1, s2, s3, s4⟩
  go_simp
  with_reducible rfl
 rotate_left
 ·simp only [Act.put, List.setIfInBounds_toArray, List.set_cons_zero, List.set_cons_succ, i64_w, i32_w]
  rfl
 refine pure_ (i := 4) (N := some 10) (v := ?_) (a' := ?_) #[true, true, true, true, true, true, true, false, true, true, true, true, false, false, false] rfl rfl (by kernel_rfl) (fun _ _ _ h => h) (Or.inl ⟨by rfl, ?_⟩) ?_ ?_
 rotate_left
 ·intro w'
  go_simp
  with_reducible rfl
 rotate_left
 ·simp only [Act.put, List.setIfInBounds_toArray, List.set_cons_zero, List.set_cons_succ, i64_w, i32_w]
  rfl
 refine join_ (σ := Nat × Option Addr × Nat) 1 #[true, true, true, true, true, true, true, true, true, true, true, true, true, true, false] (fun s => [(13, (Value.slice s.2.1 x.f2.length s.2.2)), (18, .agg #[.int .i64 x.f0, .int .u64 (IntKind.u64.wrap (x.f1 + 1)), (Value.slice s.2.1 x.f2.length s.2.2), .bool x.f3, .int .i64 x.f4]), (5, .pointer (some ⟨s.1, 0, none⟩))]) (fun s w' => Below W1.heap.size W1 w' ∧ Kd.R (Kd.int .i64) 3 w' w.heap.size (fun k => some k = (Value.slice s.2.1 x.f2.length s.2.2).ownBlock) (Value.slice s.2.1 x.f2.length s.2.2) x.f2 ∧ w'.heap[s.1]? = some (.cells #[.int .i64 0, .int .u64 0, .slice none 0 0, .bool false, .int .i64 0] 54 (0, 0)) ∧ W1.heap.size ≤ s.1 ∧ (∀ k, some k = (Value.slice s.2.1 x.f2.length s.2.2).ownBlock → W1.heap.size ≤ k ∧ k ≠ s.1)) ?_ ?_
 rotate_left
 ·intro hCont
  refine two_ (i := 7) (j := 13) (Ni := some 13) (Nj := some 5) #[true, true, true, true, true, true, true, true, true, true, true, true, false, false, false] #[true, true, true, true, true, true, true, false, true, true, true, true, false, true, false] rfl rfl rfl rfl (by kernel_rfl) (by decide) (by decide) (fun K hK => ?_) (fun K hK => ?_)
  ·skip
   refine Kd.R_append_rows_step (Kd.int .i64) (Rr := (Kd.int .i64).K _) (w0 := w) w.heap.size (by rfl) (.const (.slice none 0 0)) (.tmp 12) 52 3 (.int .i64 0) 8 rfl Tryd.underlying52 info3 rfl (by decide) (by decide) (.slice none 0 0) [] x.f2 A x.f2.length c (fun _ => True) (fun _ => True) rfl rfl (Kd.R_nil _ _ _ _ _) (Kd.F_now (Kd.F_below HF.out HX.out)) (fun _ _ hk => hk) (fun k _ => ⟨trivial, by simp [Value.ownBlock]⟩) (fun _ _ => trivial) (HB.out.trans (HX.out.mono HB.out.size)) (Nat.le_trans HB.out.size HX.out.size) (by have := HL.out; simp; omega) ?_
   intro v1 w5 ho hb hg hat
   rw [List.nil_append] at ho
   obtain ⟨A1, c1, rfl⟩ := Kd.R_slice ho
   have hgb := below_of_grown hg
   have HX5 := Lib.hid (HX.out.trans (hgb.mono HX.out.size))
   have HR5 := Lib.hid (Kd.R_tight rfl ho)
   have HG5 := Lib.hid hg.size
   have HNW : Hid (∀ k, some k = (Value.slice A1 x.f2.length c1).ownBlock → W1.heap.size ≤ k) := Lib.hid (fun k hk => by
    rcases hat with h | ⟨b5, h, hle⟩
    ·rw [h] at hk
     simp [Value.ownBlock] at hk
    ·rw [h] at hk
     injection hk with hk
     have h2 := HX.out.size
     omega)
   refine hK.out _ _ (by obtain ⟨s0, s1, s2, s3, s4⟩ := hHeld; exact ⟨hg.cell s0 (by simp [Value.ownBlock]), hg.cell s1 (by simp [Value.ownBlock]), hg.cell s2 (by simp [Value.ownBlock]), hg.cell s3 (by simp [Value.ownBlock]), hg.cell s4 (by simp [Value.ownBlock])⟩) (fun hHeld => ?_)
   clear hK K hg hat ho hb
   refine norm_ (a' := ?_) ?_ ?_
   rotate_left
   ·show Act.put _ (some 13) _ = _
    simp only [Act.put, List.setIfInBounds_toArray, List.set_cons_zero, List.set_cons_succ, i64_w, i32_w]
    rfl
   refine pure_ (i := 12) (N := some 18) (v := ?_) (a' := ?_) #[true, true, true, true, true, true, true, true, true, true, true, true, true, false, false] rfl rfl (by kernel_rfl) (fun _ _ _ h => h) (Or.inl ⟨by rfl, ?_⟩) ?_ ?_
   rotate_left
   ·intro w'
    go_simp
    with_reducible rfl
   rotate_left
   ·simp only [Act.put, List.setIfInBounds_toArray, List.set_cons_zero, List.set_cons_succ, i64_w, i32_w]
    rfl
   refine one_ (i := 13) (N := some 5) #[true, true, true, true, true, true, true, true, true, true, true, true, true, true, false] rfl rfl (by kernel_rfl) (by decide) (fun K hK => ?_)
   refine box_step (by rfl) (N := 5) rfl (cs := #[.int .i64 0, .int .u64 0, .slice none 0 0, .bool false, .int .i64 0]) (t := 54) (by first | (go_simp; done) | (go_simp; rfl)) ?_
   intro b hbe w8 hbx hb
   refine hK.out _ _ (by obtain ⟨s0, s1, s2, s3, s4⟩ := hHeld; have hg := grown_of_below hb none; exact ⟨hg.cell s0 (by simp), hg.cell s1 (by simp), hg.cell s2 (by simp), hg.cell s3 (by simp), hg.cell s4 (by simp)⟩) (fun hHeld => ?_)
   clear hK K
   refine norm_ (a' := ?_) ?_ ?_
   rotate_left
   ·show Act.put _ (some 5) _ = _
    simp only [Act.put, List.setIfInBounds_toArray, List.set_cons_zero, List.set_cons_succ, i64_w, i32_w]
    rfl
   exact norm_ (by simp only [putAll, Act.put, List.setIfInBounds_toArray, List.set_cons_zero, List.set_cons_succ]) (hCont (b, A1, c1) _ ⟨HX5.out.trans (hb.mono HX5.out.size), Kd.R_below HR5.out hb, hbx, by rw [hbe]; exact HX5.out.size, fun k hk => ⟨HNW.out k hk, fun he => by have := Kd.R_lt HR5.out k hk.symm; rw [he, hbe] at this; exact Nat.lt_irrefl _ this⟩⟩)
  ·skip
   refine box_step (by rfl) (N := 5) rfl (cs := #[.int .i64 0, .int .u64 0, .slice none 0 0, .bool false, .int .i64 0]) (t := 54) (by first | (go_simp; done) | (go_simp; rfl)) ?_
   intro b hbe w8 hbx hb
   have n0_ := Lib.hid (HX.out.trans (hb.mono HX.out.size))
   have BX := Lib.hid hbx
   have HBS : Hid (b < w8.heap.size) := Lib.hid (blk_lt hbx)
   have HBG : Hid (W1.heap.size ≤ b) := Lib.hid (by rw [hbe]; exact HX.out.size)
   refine hK.out _ _ (by obtain ⟨s0, s1, s2, s3, s4⟩ := hHeld; have hg := grown_of_below hb none; exact ⟨hg.cell s0 (by simp), hg.cell s1 (by simp), hg.cell s2 (by simp), hg.cell s3 (by simp), hg.cell s4 (by simp)⟩) (fun hHeld => ?_)
   clear hK K HX hb hbx hbe
   have HX := n0_
   refine norm_ (a' := ?_) ?_ ?_
   rotate_left
   ·show Act.put _ (some 5) _ = _
    simp only [Act.put, List.setIfInBounds_toArray, List.set_cons_zero, List.set_cons_succ, i64_w, i32_w]
    rfl
   refine one_ (i := 7) (N := some 13) #[true, true, true, true, true, true, true, true, true, true, true, true, false, true, false] rfl rfl (by kernel_rfl) (by decide) (fun K hK => ?_)
   refine Kd.R_append_rows_step (Kd.int .i64) (Rr := (Kd.int .i64).K _) (w0 := w) w.heap.size (by rfl) (.const (.slice none 0 0)) (.tmp 12) 52 3 (.int .i64 0) 8 rfl Tryd.underlying52 info3 rfl (by decide) (by decide) (.slice none 0 0) [] x.f2 A x.f2.length c (fun _ => True) (fun _ => True) rfl rfl (Kd.R_nil _ _ _ _ _) (Kd.F_now (Kd.F_below HF.out HX.out)) (fun _ _ hk => hk) (fun k _ => ⟨trivial, by simp [Value.ownBlock]⟩) (fun _ _ => trivial) (HB.out.trans (HX.out.mono HB.out.size)) (Nat.le_trans HB.out.size HX.out.size) (by have := HL.out; simp; omega) ?_
   intro v1 w5 ho hb hg hat
   rw [List.nil_append] at ho
   obtain ⟨A1, c1, rfl⟩ := Kd.R_slice ho
   have hgb := below_of_grown hg
   have HX5 := Lib.hid (HX.out.trans (hgb.mono HX.out.size))
   have HR5 := Lib.hid (Kd.R_tight rfl ho)
   have HG5 := Lib.hid hg.size
   have HNW : Hid (∀ k, some k = (Value.slice A1 x.f2.length c1).ownBlock → W1.heap.size ≤ k ∧ k ≠ b) := Lib.hid (fun k hk => by
    rcases hat with h | ⟨b5, h, hle⟩
    ·rw [h] at hk
     simp [Value.ownBlock] at hk
    ·rw [h] at hk
     injection hk with hk
     have h2 := HX.out.size
     have h3 := HBS.out
     exact ⟨by omega, by omega⟩)
   have BX5 := Lib.hid (blk_below BX.out hgb)
   refine hK.out _ _ (by obtain ⟨s0, s1, s2, s3, s4⟩ := hHeld; exact ⟨hg.cell s0 (by simp [Value.ownBlock]), hg.cell s1 (by simp [Value.ownBlock]), hg.cell s2 (by simp [Value.ownBlock]), hg.cell s3 (by simp [Value.ownBlock]), hg.cell s4 (by simp [Value.ownBlock])⟩) (fun hHeld => ?_)
   clear hK K hg hat ho hb
   refine norm_ (a' := ?_) ?_ ?_
   rotate_left
   ·show Act.put _ (some 13) _ = _
    simp only [Act.put, List.setIfInBounds_toArray, List.set_cons_zero, List.set_cons_succ, i64_w, i32_w]
    rfl
   refine pure_ (i := 12) (N := some 18) (v := ?_) (a' := ?_) #[true, true, true, true, true, true, true, true, true, true, true, true, true, true, false] rfl rfl (by kernel_rfl) (fun _ _ _ h => h) (Or.inl ⟨by rfl, ?_⟩) ?_ ?_
   rotate_left
   ·intro w'
    go_simp
    with_reducible rfl
   rotate_left
   ·simp only [Act.put, List.setIfInBounds_toArray, List.set_cons_zero, List.set_cons_succ, i64_w, i32_w]
    rfl
   exact norm_ (by simp only [putAll, Act.put, List.setIfInBounds_toArray, List.set_cons_zero, List.set_cons_succ]) (hCont (b, A1, c1) _ ⟨HX5.out, HR5.out, BX5.out, HBG.out, HNW.out⟩)
 rintro ⟨b, A1, c1⟩ w6 ⟨hX, hR, hbx, hbg, hok⟩
 have HX6 := Lib.hid hX
 have HR6 := Lib.hid hR
 have BX6 := Lib.hid hbx
 have HBG := Lib.hid hbg
 have HOK := Lib.hid hok
 clear hX hR hbx hbg hok
 refine norm_ (a' := ?_) ?_ ?_
 rotate_left
 ·simp only [putAll, Act.put, List.setIfInBounds_toArray, List.set_cons_zero, List.set_cons_succ]
  rfl
 refine last_ (i := 14) (N := none) #[true, true, true, true, true, true, true, true, true, true, true, true, true, true, true] rfl rfl (by kernel_rfl) (by decide) (fun K hK => ?_)
 have i0 : w6.cell? ⟨b, 0, none⟩ = some (.int .i64 0) := (blk_cell BX6.out 0).trans rfl
 have j0 := blk_frozen BX6.out 0
 have i1 : w6.cell? ⟨b, 1, none⟩ = some (.int .u64 0) := (blk_cell BX6.out 1).trans rfl
 have j1 := blk_frozen BX6.out 1
 have i2 : w6.cell? ⟨b, 2, none⟩ = some (.slice none 0 0) := (blk_cell BX6.out 2).trans rfl
 have j2 := blk_frozen BX6.out 2
 have i3 : w6.cell? ⟨b, 3, none⟩ = some (.bool false) := (blk_cell BX6.out 3).trans rfl
 have j3 := blk_frozen BX6.out 3
 have i4 : w6.cell? ⟨b, 4, none⟩ = some (.int .i64 0) := (blk_cell BX6.out 4).trans rfl
 have j4 := blk_frozen BX6.out 4
 refine skip_step2 (by rfl) rfl (w1 := (((((w6.setCell ⟨b, 0, none⟩ (.int .i64 x.f0)).setCell ⟨b, 1, none⟩ (.int .u64 (IntKind.u64.wrap (x.f1 + 1)))).setCell ⟨b, 2, none⟩ (.slice A1 x.f2.length c1)).setCell ⟨b, 3, none⟩ (.bool x.f3)).setCell ⟨b, 4, none⟩ (.int .i64 x.f4))) (by first | (go_simp; done) | (go_simp; rfl)) ?_
 obtain ⟨w7, hw7⟩ : ∃ w7, w7 = (((((w6.setCell ⟨b, 0, none⟩ (.int .i64 x.f0)).setCell ⟨b, 1, none⟩ (.int .u64 (IntKind.u64.wrap (x.f1 + 1)))).setCell ⟨b, 2, none⟩ (.slice A1 x.f2.length c1)).setCell ⟨b, 3, none⟩ (.bool x.f3)).setCell ⟨b, 4, none⟩ (.int .i64 x.f4)) := ⟨_, rfl⟩
 rw [← hw7]
 have BY : Hid (w7.heap[b]? = some (.cells #[.int .i64 x.f0, .int .u64 (IntKind.u64.wrap (x.f1 + 1)), .slice A1 x.f2.length c1, .bool x.f3, .int .i64 x.f4] 54 (0, 0))) := Lib.hid (by rw [hw7]; exact (blk_put (blk_put (blk_put (blk_put (blk_put BX6.out 0 _ rfl) 1 _ rfl) 2 _ rfl) 3 _ rfl) 4 _ rfl))
 have hoth : ∀ k, k ≠ b → w7.heap[k]? = w6.heap[k]? := fun k hk => by rw [hw7]; simp [World.setCell, Array.getElem?_modify, Ne.symm hk]
 have hoth1 : ∀ k, k < W1.heap.size → w7.heap[k]? = W1.heap[k]? := fun k hk => (hoth k (by have := HBG.out; omega)).trans (HX6.out.block k hk)
 have HR7 : Hid (Kd.R (Kd.int .i64) 3 w7 w.heap.size (fun k => some k = (Value.slice A1 x.f2.length c1).ownBlock) (Value.slice A1 x.f2.length c1) x.f2) := Lib.hid (Kd.R_step HR6.out (fun k hk _ => hoth k (HOK.out k hk).2))
 have HX7 : Hid (Below W1.heap.size W1 w7) := Lib.hid (by rw [hw7]; exact (below_set (below_set (below_set (below_set (below_set HX6.out HBG.out) HBG.out) HBG.out) HBG.out) HBG.out))
 have C2 := Lib.hid ((hoth1 w.heap.size (by omega)).trans B2.out)
 have C3 := Lib.hid ((hoth1 (w.heap.size + 1) (by omega)).trans B3.out)
 have C4 := Lib.hid ((hoth1 (w.heap.size + 2) (by omega)).trans B4.out)
 have HN2 : Hid (∀ k, some k = (Value.slice A1 x.f2.length c1).ownBlock → k ≠ b ∧ k ≠ w.heap.size + 2) := Lib.hid (fun k hk => by have h1 := HOK.out k hk; exact ⟨h1.2, by omega⟩)
 have hb2 : b ≠ w.heap.size + 2 := by have := HBG.out; omega
 have hb3 : w.heap.size + 3 ≤ b := by have := HBG.out; omega
 clear i0 i1 i2 i3 i4 j0 j1 j2 j3 j4 hw7 hoth hoth1 hHeld
 refine hK.out _ _ (done_ (by kernel_rfl) ?_)
 clear hK K
 have d0 : w7.cell? ⟨w.heap.size, 0, none⟩ = some (.int .i64 x.f0) := (blk_cell C2.out 0).trans rfl
 have d1 : w7.cell? ⟨w.heap.size, 1, none⟩ = some (.int .u64 x.f1) := (blk_cell C2.out 1).trans rfl
 have d2 : w7.cell? ⟨w.heap.size, 2, none⟩ = some (.slice A x.f2.length c) := (blk_cell C2.out 2).trans rfl
 have d3 : w7.cell? ⟨w.heap.size, 3, none⟩ = some (.bool x.f3) := (blk_cell C2.out 3).trans rfl
 have d4 : w7.cell? ⟨w.heap.size, 4, none⟩ = some (.int .i64 x.f4) := (blk_cell C2.out 4).trans rfl
 have k0 : w7.cell? ⟨w.heap.size + 1, 0, none⟩ = some (.int .i64 m0) := (blk_cell C3.out 0).trans rfl
 have k1 : w7.cell? ⟨w.heap.size + 1, 1, none⟩ = some (.int .i64 m1) := (blk_cell C3.out 1).trans rfl
 have k2 : w7.cell? ⟨w.heap.size + 1, 2, none⟩ = some (.int .u64 m2) := (blk_cell C3.out 2).trans rfl
 have k3 : w7.cell? ⟨w.heap.size + 1, 3, none⟩ = some (.int .i64 m3) := (blk_cell C3.out 3).trans rfl
 have z0 : w7.cell? ⟨w.heap.size + 2, 0, none⟩ = some (.int .i64 0) := (blk_cell C4.out 0).trans rfl
 have q0 := blk_frozen C4.out 0
 have z1 : w7.cell? ⟨w.heap.size + 2, 1, none⟩ = some (.int .u64 0) := (blk_cell C4.out 1).trans rfl
 have q1 := blk_frozen C4.out 1
 have z2 : w7.cell? ⟨w.heap.size + 2, 2, none⟩ = some (.slice none 0 0) := (blk_cell C4.out 2).trans rfl
 have q2 := blk_frozen C4.out 2
 have z3 : w7.cell? ⟨w.heap.size + 2, 3, none⟩ = some (.bool false) := (blk_cell C4.out 3).trans rfl
 have q3 := blk_frozen C4.out 3
 have z4 : w7.cell? ⟨w.heap.size + 2, 4, none⟩ = some (.int .i64 0) := (blk_cell C4.out 4).trans rfl
 have q4 := blk_frozen C4.out 4
 have y0 : w7.cell? ⟨b, 0, none⟩ = some (.int .i64 x.f0) := (blk_cell BY.out 0).trans rfl
 have f0 := blk_frozen BY.out 0
 have y1 : w7.cell? ⟨b, 1, none⟩ = some (.int .u64 (IntKind.u64.wrap (x.f1 + 1))) := (blk_cell BY.out 1).trans rfl
 have f1 := blk_frozen BY.out 1
 have y2 : w7.cell? ⟨b, 2, none⟩ = some (.slice A1 x.f2.length c1) := (blk_cell BY.out 2).trans rfl
 have f2 := blk_frozen BY.out 2
 have y3 : w7.cell? ⟨b, 3, none⟩ = some (.bool x.f3) := (blk_cell BY.out 3).trans rfl
 have f3 := blk_frozen BY.out 3
 have y4 : w7.cell? ⟨b, 4, none⟩ = some (.int .i64 x.f4) := (blk_cell BY.out 4).trans rfl
 have f4 := blk_frozen BY.out 4
 have HSZ7 := Lib.hid (Nat.le_trans HB.out.size HX7.out.size)
 have HN3 : Hid (∀ k, some k = (Value.slice A1 x.f2.length c1).ownBlock → k ≠ w.heap.size + 1) := Lib.hid (fun k hk => by have h1 := HOK.out k hk; omega)
 have h0 := HM.out
 by_cases e1 : m0 = 1
 ·subst e1
  rw [if_pos rfl] at h0
  by_cases e2 : x.f4 = m3
  ·rw [if_pos e2] at h0
   obtain rfl := Option.some.inj h0
   have b1 : (x.f4 == m3) = true := by simp [e2]
   clear h0 HM e2
   go_wp2_with fail
   refine bodyPost_ret (results_cell_row rfl _ _ (w.heap.size + 2) 54 #[.int .i64 x.f0, .int .u64 (IntKind.u64.wrap (x.f1 + 1)), .slice A1 x.f2.length c1, .bool x.f3, .int .i64 0] (0, 0) _ rfl (blk_put (blk_put (blk_put (blk_put (blk_put (blk_far C4.out (Ne.symm hb2) _) 0 _ rfl) 1 _ rfl) 2 _ rfl) 3 _ rfl) 4 _ rfl) Tryd.underlying54 rfl (by kernel_rfl)) rfl ?_
   exact ⟨_, rfl, Kd.R_mono (Kd.R_far (Kd.R_far (Kd.R_far (Kd.R_far (Kd.R_far (Kd.R_far HR7.out (fun k hk => (HN2.out k hk).1) _) (fun k hk => (HN2.out k hk).2) _) (fun k hk => (HN2.out k hk).2) _) (fun k hk => (HN2.out k hk).2) _) (fun k hk => (HN2.out k hk).2) _) (fun k hk => (HN2.out k hk).2) _) (fun _ _ => trivial), (below_set (below_set (below_set (below_set (below_set (below_set (HB.out.trans (HX7.out.mono HB.out.size)) (by omega)) (by omega)) (by omega)) (by omega)) (by omega)) (by omega))⟩
  ·rw [if_neg e2] at h0
   have b1 : (x.f4 == m3) = false := by simp [e2]
   by_cases e3 : 0 < x.f2.length
   rotate_left
   ·rw [if_neg e3] at h0
    cases h0
   rw [if_pos e3] at h0
   obtain ⟨z, hz, h1⟩ := Option.bind_eq_some_iff.1 h0
   have HZ := Lib.hid hz
   obtain ⟨ad, rfl, hx⟩ := Kd.at_int (Kd.F_now (Kd.F_below HF.out HX7.out)) ((x.f2.length : Int) - 1) (by omega) (by omega)
   have hwr : IntKind.i64.wrap ((x.f2.length : Int) - 1) = (x.f2.length : Int) - 1 := by have := HL.out; rw [i64_w]; unfold wrap64; omega
   have g0 : (1 ≤ (x.f2.length : Int) ∧ (x.f2.length : Int) - 1 < (x.f2.length : Int)) = True := eq_true ⟨by omega, by omega⟩
   rw [show ((x.f2.length : Int) - 1).toNat = x.f2.length - 1 by omega] at hx
   have g1 : decide ((x.f2.length : Int) - 1 < (x.f2.length : Int)) = true := decide_eq_true (by omega)
   have hlen : 0 < x.f2.length := e3
   by_cases e4 : rd x.f2 ((x.f2.length : Int) - 1) = m3
   ·rw [if_pos e4] at h1
    obtain rfl := Option.some.inj h1
    have b2 : (rd x.f2 ((x.f2.length : Int) - 1) == m3) = true := by simp [e4]
    clear h0 HM hz e2 h1 e4
    go_wp2_with fail
    refine start_ (n := 11) (S := fun w' => (w'.cell? ⟨w.heap.size, 0, none⟩ = some (.int .i64 x.f0) ∧ w'.cell? ⟨w.heap.size, 1, none⟩ = some (.int .u64 x.f1) ∧ w'.cell? ⟨w.heap.size, 2, none⟩ = some (.slice (some ad) x.f2.length c) ∧ w'.cell? ⟨w.heap.size, 3, none⟩ = some (.bool x.f3) ∧ w'.cell? ⟨w.heap.size, 4, none⟩ = some (.int .i64 x.f4) ∧ w'.cell? ⟨w.heap.size + 1, 3, none⟩ = some (.int .i64 m3) ∧ w'.cell? (ad.add (x.f2.length - 1)) = some (.int .i64 (rd x.f2 ((x.f2.length : Int) - 1))))) (ds := []) #[false, false, false, false, false, false, false, false, false, false, false] (by kernel_rfl) rfl rfl ⟨d0, d1, d2, d3, d4, k3, hx⟩ (fun hHeld => ?_)
    refine pure_ (i := 0) (N := some 30) (v := ?_) (a' := ?_) #[true, false, false, false, false, false, false, false, false, false, false] rfl rfl (by kernel_rfl) (fun _ _ _ h => h) (Or.inl ⟨by rfl, ?_⟩) ?_ ?_
    rotate_left
    ·intro w'
     go_simp
     with_reducible rfl
    rotate_left
    ·simp only [Act.put, List.setIfInBounds_toArray, List.set_cons_zero, List.set_cons_succ, i64_w, i32_w]
     rfl
    refine pure_ (i := 2) (N := some 32) (v := ?_) (a' := ?_) #[true, false, true, false, false, false, false, false, false, false, false] rfl rfl (by kernel_rfl) (fun _ _ _ h => h) (Or.inl ⟨by rfl, ?_⟩) ?_ ?_
    rotate_left
    ·intro w'
     go_simp
     with_reducible rfl
    rotate_left
    ·simp only [Act.put, List.setIfInBounds_toArray, List.set_cons_zero, List.set_cons_succ, i64_w, i32_w]
     rfl
    refine pure_ (i := 8) (N := some 38) (v := ?_) (a' := ?_) #[true, false, true, false, false, false, false, false, true, false, false] rfl rfl (by kernel_rfl) (fun _ _ _ h => h) (Or.inl ⟨by rfl, ?_⟩) ?_ ?_
    rotate_left
    ·intro w'
     go_simp
     with_reducible rfl
    rotate_left
    ·simp only [Act.put, List.setIfInBounds_toArray, List.set_cons_zero, List.set_cons_succ, i64_w, i32_w]
     rfl
    refine take_ (i := 1) (N := some 31) (v := ?_) (a' := ?_) #[true, true, true, false, false, false, false, false, true, false, false] rfl rfl (by kernel_rfl) (fun _ _ _ h => h) (Or.inl ⟨by rfl, ?_⟩) hHeld ?_ ?_
    rotate_left
    ·rintro w' ⟨s0, s1, s2, s3, s4, s5, s6⟩
     go_simp
     with_reducible rfl
    rotate_left
    ·simp only [Act.put, List.setIfInBounds_toArray, List.set_cons_zero, List.set_cons_succ, i64_w, i32_w]
     rfl
    refine take_ (i := 3) (N := some 33) (v := ?_) (a' := ?_) #[true, true, true, true, false, false, false, false, true, false, false] rfl rfl (by kernel_rfl) (fun _ _ _ h => h) (Or.inl ⟨by rfl, ?_⟩) hHeld ?_ ?_
    rotate_left
    ·rintro w' ⟨s0, s1, s2, s3, s4, s5, s6⟩
     go_simp
     with_reducible rfl
    rotate_left
    ·simp only [Act.put, List.setIfInBounds_toArray, List.set_cons_zero, List.set_cons_succ, i64_w, i32_w]
     rfl
    refine take_ (i := 9) (N := some 39) (v := ?_) (a' := ?_) #[true, true, true, true, false, false, false, false, true, true, false] rfl rfl (by kernel_rfl) (fun _ _ _ h => h) (Or.inl ⟨by rfl, ?_⟩) hHeld ?_ ?_
    rotate_left
    ·rintro w' ⟨s0, s1, s2, s3, s4, s5, s6⟩
     go_simp
     with_reducible rfl
    rotate_left
    ·simp only [Act.put, List.setIfInBounds_toArray, List.set_cons_zero, List.set_cons_succ, i64_w, i32_w]
     rfl
    refine pure_ (i := 4) (N := some 34) (v := ?_) (a' := ?_) #[true, true, true, true, true, false, false, false, true, true, false] rfl rfl (by kernel_rfl) (fun _ _ _ h => h) (Or.inl ⟨by rfl, ?_⟩) ?_ ?_
    rotate_left
    ·intro w'
     go_simp
     with_reducible rfl
    rotate_left
    ·simp only [Act.put, List.setIfInBounds_toArray, List.set_cons_zero, List.set_cons_succ, i64_w, i32_w]
     rfl
    refine pure_ (i := 5) (N := some 35) (v := ?_) (a' := ?_) #[true, true, true, true, true, true, false, false, true, true, false] rfl rfl (by kernel_rfl) (fun _ _ _ h => h) (Or.inl ⟨by rfl, ?_⟩) ?_ ?_
    rotate_left
    ·intro w'
     go_simp
     with_reducible rfl
    rotate_left
    ·simp only [Act.put, List.setIfInBounds_toArray, List.set_cons_zero, List.set_cons_succ, i64_w, i32_w]
     rfl
    refine pure_ (i := 6) (N := some 36) (v := ?_) (a' := ?_) #[true, true, true, true, true, true, true, false, true, true, false] rfl rfl (by kernel_rfl) (fun _ _ _ h => h) (Or.inl ⟨by rfl, ?_⟩) ?_ ?_
    rotate_left
    ·intro w'
     go_simp
     with_reducible rfl
    rotate_left
    ·simp only [Act.put, List.setIfInBounds_toArray, List.set_cons_zero, List.set_cons_succ, i64_w, i32_w]
     rfl
    refine take_ (i := 7) (N := some 37) (v := ?_) (a' := ?_) #[true, true, true, true, true, true, true, true, true, true, false] rfl rfl (by kernel_rfl) (fun _ _ _ h => h) (Or.inl ⟨by rfl, ?_⟩) hHeld ?_ ?_
    rotate_left
    ·rintro w' ⟨s0, s1, s2, s3, s4, s5, s6⟩
     go_simp
     with_reducible rfl
    rotate_left
    ·simp only [Act.put, List.setIfInBounds_toArray, List.set_cons_zero, List.set_cons_succ, i64_w, i32_w]
     rfl
    refine pure_ (i := 10) (N := some 40) (v := ?_) (a' := ?_) #[true, true, true, true, true, true, true, true, true, true, true] rfl rfl (by kernel_rfl) (fun _ _ _ h => h) (Or.inl ⟨by rfl, ?_⟩) ?_ ?_
    rotate_left
    ·intro w'
     go_simp
     with_reducible rfl
    rotate_left
    ·simp only [Act.put, List.setIfInBounds_toArray, List.set_cons_zero, List.set_cons_succ, i64_w, i32_w]
     rfl
    refine done_ (by kernel_rfl) ?_
    go_wp2_with (go_at_call 102; refine (catenaryref04_Without.calls k (some ad) c x.f2 m3 z (w7.drew.setCell ⟨b, 3, none⟩ (.bool false)) (Kd.F_now (Kd.F_far (Kd.F_below HF.out HX7.out.drew) (fun k hk => by simp only; omega) _)) HC.out HZ.out).mono ?_; rintro e w9 ⟨v9, rfl, h9, g9⟩; obtain ⟨A9, c9, rfl⟩ := Kd.R_slice h9; have BY9 := Lib.hid (blk_below (show (w7.drew.setCell ⟨b, 3, none⟩ (.bool false)).heap[b]? = some (.cells #[.int .i64 x.f0, .int .u64 (IntKind.u64.wrap (x.f1 + 1)), .slice A1 x.f2.length c1, .bool false, .int .i64 x.f4] 54 (0, 0)) from blk_put (blk_drew BY.out) 3 _ rfl) g9); have C49 := Lib.hid (blk_below (blk_far (blk_drew C4.out) (Ne.symm hb2) _) g9); have HN9 : Hid (∀ k, some k = (Value.slice A9 z.length c9).ownBlock → k ≠ b ∧ k ≠ w.heap.size + 2) := Lib.hid (fun k hk => by have h1 := blk_lt (blk_drew BY.out); have h3 := Kd.R_base h9 k hk.symm; simp only [World.setCell, Array.size_modify] at h3; exact ⟨by omega, by omega⟩); have H9 := Lib.hid (Kd.R_lower (Kd.R_tight rfl h9) (show w.heap.size ≤ _ by have h1 := blk_lt (blk_drew BY.out); simp only [World.setCell, Array.size_modify]; omega)); have HB9 := Lib.hid (Below.trans (below_set (HB.out.trans (HX7.out.drew.mono HB.out.size)) (by omega)) (g9.mono (show w.heap.size ≤ _ by have h1 := blk_lt (blk_drew BY.out); simp only [World.setCell, Array.size_modify]; omega))); clear d0 d1 d2 d3 d4 k0 k1 k2 k3 z0 q0 y0 f0 z1 q1 y1 f1 z2 q2 y2 f2 z3 q3 y3 f3 z4 q4 y4 f4; clear h9 g9; have z0 : w9.cell? ⟨w.heap.size + 2, 0, none⟩ = some (.int .i64 0) := (blk_cell C49.out 0).trans rfl; have q0 := blk_frozen C49.out 0; have z1 : w9.cell? ⟨w.heap.size + 2, 1, none⟩ = some (.int .u64 0) := (blk_cell C49.out 1).trans rfl; have q1 := blk_frozen C49.out 1; have z2 : w9.cell? ⟨w.heap.size + 2, 2, none⟩ = some (.slice none 0 0) := (blk_cell C49.out 2).trans rfl; have q2 := blk_frozen C49.out 2; have z3 : w9.cell? ⟨w.heap.size + 2, 3, none⟩ = some (.bool false) := (blk_cell C49.out 3).trans rfl; have q3 := blk_frozen C49.out 3; have z4 : w9.cell? ⟨w.heap.size + 2, 4, none⟩ = some (.int .i64 0) := (blk_cell C49.out 4).trans rfl; have q4 := blk_frozen C49.out 4; have y0 : w9.cell? ⟨b, 0, none⟩ = some (.int .i64 x.f0) := (blk_cell BY9.out 0).trans rfl; have f0 := blk_frozen BY9.out 0; have y1 : w9.cell? ⟨b, 1, none⟩ = some (.int .u64 (IntKind.u64.wrap (x.f1 + 1))) := (blk_cell BY9.out 1).trans rfl; have f1 := blk_frozen BY9.out 1; have y2 : w9.cell? ⟨b, 2, none⟩ = some (.slice A1 x.f2.length c1) := (blk_cell BY9.out 2).trans rfl; have f2 := blk_frozen BY9.out 2; have y3 : w9.cell? ⟨b, 3, none⟩ = some (.bool false) := (blk_cell BY9.out 3).trans rfl; have f3 := blk_frozen BY9.out 3; have y4 : w9.cell? ⟨b, 4, none⟩ = some (.int .i64 x.f4) := (blk_cell BY9.out 4).trans rfl; have f4 := blk_frozen BY9.out 4)
    refine bodyPost_ret (results_cell_row rfl _ _ (w.heap.size + 2) 54 #[.int .i64 x.f0, .int .u64 (IntKind.u64.wrap (x.f1 + 1)), Value.slice A9 z.length c9, .bool false, .int .i64 x.f4] (0, 0) _ rfl (blk_put (blk_put (blk_put (blk_put (blk_put (blk_far C49.out (Ne.symm hb2) _) 0 _ rfl) 1 _ rfl) 2 _ rfl) 3 _ rfl) 4 _ rfl) Tryd.underlying54 rfl (by kernel_rfl)) rfl ?_
    exact ⟨_, rfl, Kd.R_mono (Kd.R_far (Kd.R_far (Kd.R_far (Kd.R_far (Kd.R_far (Kd.R_far H9.out (fun k hk => (HN9.out k hk).1) _) (fun k hk => (HN9.out k hk).2) _) (fun k hk => (HN9.out k hk).2) _) (fun k hk => (HN9.out k hk).2) _) (fun k hk => (HN9.out k hk).2) _) (fun k hk => (HN9.out k hk).2) _) (fun _ _ => trivial), (below_set (below_set (below_set (below_set (below_set (below_set HB9.out (by omega)) (by omega)) (by omega)) (by omega)) (by omega)) (by omega))⟩
   ·rw [if_neg e4] at h1
    obtain rfl := Option.some.inj h1
    have b2 : (rd x.f2 ((x.f2.length : Int) - 1) == m3) = false := by simp [e4]
    clear h0 HM hz e2 h1 e4
    go_wp2_with fail
    refine start_ (n := 11) (S := fun w' => (w'.cell? ⟨w.heap.size, 0, none⟩ = some (.int .i64 x.f0) ∧ w'.cell? ⟨w.heap.size, 1, none⟩ = some (.int .u64 x.f1) ∧ w'.cell? ⟨w.heap.size, 2, none⟩ = some (.slice (some ad) x.f2.length c) ∧ w'.cell? ⟨w.heap.size, 3, none⟩ = some (.bool x.f3) ∧ w'.cell? ⟨w.heap.size, 4, none⟩ = some (.int .i64 x.f4) ∧ w'.cell? ⟨w.heap.size + 1, 3, none⟩ = some (.int .i64 m3) ∧ w'.cell? (ad.add (x.f2.length - 1)) = some (.int .i64 (rd x.f2 ((x.f2.length : Int) - 1))))) (ds := []) #[false, false, false, false, false, false, false, false, false, false, false] (by kernel_rfl) rfl rfl ⟨d0, d1, d2, d3, d4, k3, hx⟩ (fun hHeld => ?_)
    refine pure_ (i := 0) (N := some 30) (v := ?_) (a' := ?_) #[true, false, false, false, false, false, false, false, false, false, false] rfl rfl (by kernel_rfl) (fun _ _ _ h => h) (Or.inl ⟨by rfl, ?_⟩) ?_ ?_
    rotate_left
    ·intro w'
     go_simp
     with_reducible rfl
    rotate_left
    ·simp only [Act.put, List.setIfInBounds_toArray, List.set_cons_zero, List.set_cons_succ, i64_w, i32_w]
     rfl
    refine pure_ (i := 2) (N := some 32) (v := ?_) (a' := ?_) #[true, false, true, false, false, false, false, false, false, false, false] rfl rfl (by kernel_rfl) (fun _ _ _ h => h) (Or.inl ⟨by rfl, ?_⟩) ?_ ?_
    rotate_left
    ·intro w'
     go_simp
     with_reducible rfl
    rotate_left
    ·simp only [Act.put, List.setIfInBounds_toArray, List.set_cons_zero, List.set_cons_succ, i64_w, i32_w]
     rfl
    refine pure_ (i := 8) (N := some 38) (v := ?_) (a' := ?_) #[true, false, true, false, false, false, false, false, true, false, false] rfl rfl (by kernel_rfl) (fun _ _ _ h => h) (Or.inl ⟨by rfl, ?_⟩) ?_ ?_
    rotate_left
    ·intro w'
     go_simp
     with_reducible rfl
    rotate_left
    ·simp only [Act.put, List.setIfInBounds_toArray, List.set_cons_zero, List.set_cons_succ, i64_w, i32_w]
     rfl
    refine take_ (i := 1) (N := some 31) (v := ?_) (a' := ?_) #[true, true, true, false, false, false, false, false, true, false, false] rfl rfl (by kernel_rfl) (fun _ _ _ h => h) (Or.inl ⟨by rfl, ?_⟩) hHeld ?_ ?_
    rotate_left
    ·rintro w' ⟨s0, s1, s2, s3, s4, s5, s6⟩
     go_simp
     with_reducible rfl
    rotate_left
    ·simp only [Act.put, List.setIfInBounds_toArray, List.set_cons_zero, List.set_cons_succ, i64_w, i32_w]
     rfl
    refine take_ (i := 3) (N := some 33) (v := ?_) (a' := ?_) #[true, true, true, true, false, false, false, false, true, false, false] rfl rfl (by kernel_rfl) (fun _ _ _ h => h) (Or.inl ⟨by rfl, ?_⟩) hHeld ?_ ?_
    rotate_left
    ·rintro w' ⟨s0, s1, s2, s3, s4, s5, s6⟩
     go_simp
     with_reducible rfl
    rotate_left
    ·simp only [Act.put, List.setIfInBounds_toArray, List.set_cons_zero, List.set_cons_succ, i64_w, i32_w]
     rfl
    refine take_ (i := 9) (N := some 39) (v := ?_) (a' := ?_) #[true, true, true, true, false, false, false, false, true, true, false] rfl rfl (by kernel_rfl) (fun _ _ _ h => h) (Or.inl ⟨by rfl, ?_⟩) hHeld ?_ ?_
    rotate_left
    ·rintro w' ⟨s0, s1, s2, s3, s4, s5, s6⟩
     go_simp
     with_reducible rfl
    rotate_left
    ·simp only [Act.put, List.setIfInBounds_toArray, List.set_cons_zero, List.set_cons_succ, i64_w, i32_w]
     rfl
    refine pure_ (i := 4) (N := some 34) (v := ?_) (a' := ?_) #[true, true, true, true, true, false, false, false, true, true, false] rfl rfl (by kernel_rfl) (fun _ _ _ h => h) (Or.inl ⟨by rfl, ?_⟩) ?_ ?_
    rotate_left
    ·intro w'
     go_simp
     with_reducible rfl
    rotate_left
    ·simp only [Act.put, List.setIfInBounds_toArray, List.set_cons_zero, List.set_cons_succ, i64_w, i32_w]
     rfl
    refine pure_ (i := 5) (N := some 35) (v := ?_) (a' := ?_) #[true, true, true, true, true, true, false, false, true, true, false] rfl rfl (by kernel_rfl) (fun _ _ _ h => h) (Or.inl ⟨by rfl, ?_⟩) ?_ ?_
    rotate_left
    ·intro w'
     go_simp
     with_reducible rfl
    rotate_left
    ·simp only [Act.put, List.setIfInBounds_toArray, List.set_cons_zero, List.set_cons_succ, i64_w, i32_w]
     rfl
    refine pure_ (i := 6) (N := some 36) (v := ?_) (a' := ?_) #[true, true, true, true, true, true, true, false, true, true, false] rfl rfl (by kernel_rfl) (fun _ _ _ h => h) (Or.inl ⟨by rfl, ?_⟩) ?_ ?_
    rotate_left
    ·intro w'
     go_simp
     with_reducible rfl
    rotate_left
    ·simp only [Act.put, List.setIfInBounds_toArray, List.set_cons_zero, List.set_cons_succ, i64_w, i32_w]
     rfl
    refine take_ (i := 7) (N := some 37) (v := ?_) (a' := ?_) #[true, true, true, true, true, true, true, true, true, true, false] rfl rfl (by kernel_rfl) (fun _ _ _ h => h) (Or.inl ⟨by rfl, ?_⟩) hHeld ?_ ?_
    rotate_left
    ·rintro w' ⟨s0, s1, s2, s3, s4, s5, s6⟩
     go_simp
     with_reducible rfl
    rotate_left
    ·simp only [Act.put, List.setIfInBounds_toArray, List.set_cons_zero, List.set_cons_succ, i64_w, i32_w]
     rfl
    refine pure_ (i := 10) (N := some 40) (v := ?_) (a' := ?_) #[true, true, true, true, true, true, true, true, true, true, true] rfl rfl (by kernel_rfl) (fun _ _ _ h => h) (Or.inl ⟨by rfl, ?_⟩) ?_ ?_
    rotate_left
    ·intro w'
     go_simp
     with_reducible rfl
    rotate_left
    ·simp only [Act.put, List.setIfInBounds_toArray, List.set_cons_zero, List.set_cons_succ, i64_w, i32_w]
     rfl
    refine done_ (by kernel_rfl) ?_
    go_wp2_with (go_at_call 102; refine (catenaryref04_Without.calls k (some ad) c x.f2 m3 z w7.drew (Kd.F_now (Kd.F_below HF.out HX7.out.drew)) HC.out HZ.out).mono ?_; rintro e w9 ⟨v9, rfl, h9, g9⟩; obtain ⟨A9, c9, rfl⟩ := Kd.R_slice h9; have BY9 := Lib.hid (blk_below (blk_drew BY.out) g9); have C49 := Lib.hid (blk_below (blk_drew C4.out) g9); have HN9 : Hid (∀ k, some k = (Value.slice A9 z.length c9).ownBlock → k ≠ b ∧ k ≠ w.heap.size + 2) := Lib.hid (fun k hk => by have h1 := blk_lt (blk_drew BY.out); have h3 := Kd.R_base h9 k hk.symm; exact ⟨by omega, by omega⟩); have H9 := Lib.hid (Kd.R_lower (Kd.R_tight rfl h9) (show w.heap.size ≤ _ by have h1 := blk_lt (blk_drew BY.out); skip; omega)); have HB9 := Lib.hid (Below.trans (HB.out.trans (HX7.out.drew.mono HB.out.size)) (g9.mono (show w.heap.size ≤ _ by have h1 := blk_lt (blk_drew BY.out); skip; omega))); clear d0 d1 d2 d3 d4 k0 k1 k2 k3 z0 q0 y0 f0 z1 q1 y1 f1 z2 q2 y2 f2 z3 q3 y3 f3 z4 q4 y4 f4; clear h9 g9; have z0 : w9.cell? ⟨w.heap.size + 2, 0, none⟩ = some (.int .i64 0) := (blk_cell C49.out 0).trans rfl; have q0 := blk_frozen C49.out 0; have z1 : w9.cell? ⟨w.heap.size + 2, 1, none⟩ = some (.int .u64 0) := (blk_cell C49.out 1).trans rfl; have q1 := blk_frozen C49.out 1; have z2 : w9.cell? ⟨w.heap.size + 2, 2, none⟩ = some (.slice none 0 0) := (blk_cell C49.out 2).trans rfl; have q2 := blk_frozen C49.out 2; have z3 : w9.cell? ⟨w.heap.size + 2, 3, none⟩ = some (.bool false) := (blk_cell C49.out 3).trans rfl; have q3 := blk_frozen C49.out 3; have z4 : w9.cell? ⟨w.heap.size + 2, 4, none⟩ = some (.int .i64 0) := (blk_cell C49.out 4).trans rfl; have q4 := blk_frozen C49.out 4; have y0 : w9.cell? ⟨b, 0, none⟩ = some (.int .i64 x.f0) := (blk_cell BY9.out 0).trans rfl; have f0 := blk_frozen BY9.out 0; have y1 : w9.cell? ⟨b, 1, none⟩ = some (.int .u64 (IntKind.u64.wrap (x.f1 + 1))) := (blk_cell BY9.out 1).trans rfl; have f1 := blk_frozen BY9.out 1; have y2 : w9.cell? ⟨b, 2, none⟩ = some (.slice A1 x.f2.length c1) := (blk_cell BY9.out 2).trans rfl; have f2 := blk_frozen BY9.out 2; have y3 : w9.cell? ⟨b, 3, none⟩ = some (.bool x.f3) := (blk_cell BY9.out 3).trans rfl; have f3 := blk_frozen BY9.out 3; have y4 : w9.cell? ⟨b, 4, none⟩ = some (.int .i64 x.f4) := (blk_cell BY9.out 4).trans rfl; have f4 := blk_frozen BY9.out 4)
    refine bodyPost_ret (results_cell_row rfl _ _ (w.heap.size + 2) 54 #[.int .i64 x.f0, .int .u64 (IntKind.u64.wrap (x.f1 + 1)), Value.slice A9 z.length c9, .bool x.f3, .int .i64 x.f4] (0, 0) _ rfl (blk_put (blk_put (blk_put (blk_put (blk_put (blk_far C49.out (Ne.symm hb2) _) 0 _ rfl) 1 _ rfl) 2 _ rfl) 3 _ rfl) 4 _ rfl) Tryd.underlying54 rfl (by kernel_rfl)) rfl ?_
    exact ⟨_, rfl, Kd.R_mono (Kd.R_far (Kd.R_far (Kd.R_far (Kd.R_far (Kd.R_far (Kd.R_far H9.out (fun k hk => (HN9.out k hk).1) _) (fun k hk => (HN9.out k hk).2) _) (fun k hk => (HN9.out k hk).2) _) (fun k hk => (HN9.out k hk).2) _) (fun k hk => (HN9.out k hk).2) _) (fun k hk => (HN9.out k hk).2) _) (fun _ _ => trivial), (below_set (below_set (below_set (below_set (below_set (below_set HB9.out (by omega)) (by omega)) (by omega)) (by omega)) (by omega)) (by omega))⟩
 ·have b1 : (m0 == 1) = false := by simp [e1]
  rw [if_neg e1] at h0
  by_cases e2 : m0 = 2
  ·subst e2
   rw [if_pos rfl] at h0
   obtain rfl := Option.some.inj h0
   clear h0 HM
   go_wp2_with fail
   refine bodyPost_ret (results_cell_row rfl _ _ (w.heap.size + 2) 54 #[.int .i64 x.f0, .int .u64 (IntKind.u64.wrap (x.f1 + 1)), .slice A1 x.f2.length c1, .bool x.f3, .int .i64 m3] (0, 0) _ rfl (blk_put (blk_put (blk_put (blk_put (blk_put (blk_far C4.out (Ne.symm hb2) _) 0 _ rfl) 1 _ rfl) 2 _ rfl) 3 _ rfl) 4 _ rfl) Tryd.underlying54 rfl (by kernel_rfl)) rfl ?_
   exact ⟨_, rfl, Kd.R_mono (Kd.R_far (Kd.R_far (Kd.R_far (Kd.R_far (Kd.R_far (Kd.R_far HR7.out (fun k hk => (HN2.out k hk).1) _) (fun k hk => (HN2.out k hk).2) _) (fun k hk => (HN2.out k hk).2) _) (fun k hk => (HN2.out k hk).2) _) (fun k hk => (HN2.out k hk).2) _) (fun k hk => (HN2.out k hk).2) _) (fun _ _ => trivial), (below_set (below_set (below_set (below_set (below_set (below_set (HB.out.trans (HX7.out.mono HB.out.size)) (by omega)) (by omega)) (by omega)) (by omega)) (by omega)) (by omega))⟩
  ·have b2 : (m0 == 2) = false := by simp [e2]
   rw [if_neg e2] at h0
   by_cases e3 : m0 = 3
   ·subst e3
    rw [if_pos rfl] at h0
    obtain rfl := Option.some.inj h0
    clear h0 HM
    go_wp2_with ((with_reducible refine gate_builtin (b := .append) (xs := #[.tmp 56, .tmp 59]) rfl ?_); at_builtin; refine Kd.R_append (Kd.int .i64) (w0 := w7) w.heap.size rfl (.tmp 56) (.tmp 59) 52 3 (.int .i64 0) 8 rfl Tryd.underlying52 info3 rfl (by decide) (by omega) (.slice A1 x.f2.length c1) x.f2 m3 [.int .i64 m3] (fun _ => True) (fun _ => False) rfl rfl (by exact rfl) (fun _ hk => hk.elim) (fun _ _ => trivial) (Kd.R_mono HR7.out (fun _ _ => trivial)) (Below.refl _ _) HSZ7.out (by have := HL.out; omega) ?_; intro v9 w9 ho hb hg hat; obtain ⟨A9, c9, rfl⟩ := Kd.R_slice ho; rw [show (x.f2 ++ [m3]).length = x.f2.length + 1 by simp] at ho hat; have BY9 := Lib.hid (blk_grown BY.out hg (fun h => (HN2.out b h).1 rfl)); have C49 := Lib.hid (blk_grown C4.out hg (fun h => (HN2.out _ h).2 rfl)); have C39 := Lib.hid (blk_grown C3.out hg (fun h => HN3.out _ h rfl)); have HN9 : Hid (∀ k, some k = (Value.slice A9 (x.f2.length + 1) c9).ownBlock → k ≠ b ∧ k ≠ w.heap.size + 2) := Lib.hid (fun k hk => by rcases hat with h | ⟨b9, h, hle⟩; exact HN2.out k (h ▸ hk); rw [h] at hk; injection hk with hk; have h1 := blk_lt BY.out; exact ⟨by omega, by omega⟩); have H9 := Lib.hid (Kd.R_tight rfl ho); have HB9 := Lib.hid (pw_below_grown (HB.out.trans (HX7.out.mono HB.out.size)) _ HSZ7.out hg (fun k hk => Kd.R_base HR7.out k hk)); clear d0 d1 d2 d3 d4 k0 k1 k2 k3 z0 q0 y0 f0 z1 q1 y1 f1 z2 q2 y2 f2 z3 q3 y3 f3 z4 q4 y4 f4; clear ho hb hg hat; have z0 : w9.cell? ⟨w.heap.size + 2, 0, none⟩ = some (.int .i64 0) := (blk_cell C49.out 0).trans rfl; have q0 := blk_frozen C49.out 0; have z1 : w9.cell? ⟨w.heap.size + 2, 1, none⟩ = some (.int .u64 0) := (blk_cell C49.out 1).trans rfl; have q1 := blk_frozen C49.out 1; have z2 : w9.cell? ⟨w.heap.size + 2, 2, none⟩ = some (.slice none 0 0) := (blk_cell C49.out 2).trans rfl; have q2 := blk_frozen C49.out 2; have z3 : w9.cell? ⟨w.heap.size + 2, 3, none⟩ = some (.bool false) := (blk_cell C49.out 3).trans rfl; have q3 := blk_frozen C49.out 3; have z4 : w9.cell? ⟨w.heap.size + 2, 4, none⟩ = some (.int .i64 0) := (blk_cell C49.out 4).trans rfl; have q4 := blk_frozen C49.out 4; have y0 : w9.cell? ⟨b, 0, none⟩ = some (.int .i64 x.f0) := (blk_cell BY9.out 0).trans rfl; have f0 := blk_frozen BY9.out 0; have y1 : w9.cell? ⟨b, 1, none⟩ = some (.int .u64 (IntKind.u64.wrap (x.f1 + 1))) := (blk_cell BY9.out 1).trans rfl; have f1 := blk_frozen BY9.out 1; have y2 : w9.cell? ⟨b, 2, none⟩ = some (.slice A1 x.f2.length c1) := (blk_cell BY9.out 2).trans rfl; have f2 := blk_frozen BY9.out 2; have y3 : w9.cell? ⟨b, 3, none⟩ = some (.bool x.f3) := (blk_cell BY9.out 3).trans rfl; have f3 := blk_frozen BY9.out 3; have y4 : w9.cell? ⟨b, 4, none⟩ = some (.int .i64 x.f4) := (blk_cell BY9.out 4).trans rfl; have f4 := blk_frozen BY9.out 4; have k1 : w9.cell? ⟨w.heap.size + 1, 1, none⟩ = some (.int .i64 m1) := (blk_cell C39.out 1).trans rfl; have k2 : w9.cell? ⟨w.heap.size + 1, 2, none⟩ = some (.int .u64 m2) := (blk_cell C39.out 2).trans rfl; have k3 : w9.cell? ⟨w.heap.size + 1, 3, none⟩ = some (.int .i64 m3) := (blk_cell C39.out 3).trans rfl)
    refine bodyPost_ret (results_cell_row rfl _ _ (w.heap.size + 2) 54 #[.int .i64 x.f0, .int .u64 (IntKind.u64.wrap (x.f1 + 1)), Value.slice A9 (x.f2.length + 1) c9, .bool true, .int .i64 0] (0, 0) _ rfl (blk_put (blk_put (blk_put (blk_put (blk_put (blk_far (blk_far (blk_far C49.out (Ne.symm hb2) _) (Ne.symm hb2) _) (Ne.symm hb2) _) 0 _ rfl) 1 _ rfl) 2 _ rfl) 3 _ rfl) 4 _ rfl) Tryd.underlying54 rfl (by kernel_rfl)) rfl ?_
    exact ⟨_, rfl, Kd.R_mono (Kd.R_far (Kd.R_far (Kd.R_far (Kd.R_far (Kd.R_far (Kd.R_far (Kd.R_far (Kd.R_far H9.out (fun k hk => (HN9.out k hk).1) _) (fun k hk => (HN9.out k hk).1) _) (fun k hk => (HN9.out k hk).1) _) (fun k hk => (HN9.out k hk).2) _) (fun k hk => (HN9.out k hk).2) _) (fun k hk => (HN9.out k hk).2) _) (fun k hk => (HN9.out k hk).2) _) (fun k hk => (HN9.out k hk).2) _) (fun _ _ => trivial), (below_set (below_set (below_set (below_set (below_set (below_set (below_set (below_set HB9.out (by omega)) (by omega)) (by omega)) (by omega)) (by omega)) (by omega)) (by omega)) (by omega))⟩
   ·have b3 : (m0 == 3) = false := by simp [e3]
    rw [if_neg e3] at h0
    obtain rfl := Option.some.inj h0
    clear h0 HM
    go_wp2_with fail
    refine bodyPost_ret (results_cell_row rfl _ _ (w.heap.size + 2) 54 #[.int .i64 x.f0, .int .u64 (IntKind.u64.wrap (x.f1 + 1)), .slice A1 x.f2.length c1, .bool false, .int .i64 x.f4] (0, 0) _ rfl (blk_put (blk_put (blk_put (blk_put (blk_put (blk_far C4.out (Ne.symm hb2) _) 0 _ rfl) 1 _ rfl) 2 _ rfl) 3 _ rfl) 4 _ rfl) Tryd.underlying54 rfl (by kernel_rfl)) rfl ?_
    exact ⟨_, rfl, Kd.R_mono (Kd.R_far (Kd.R_far (Kd.R_far (Kd.R_far (Kd.R_far (Kd.R_far HR7.out (fun k hk => (HN2.out k hk).1) _) (fun k hk => (HN2.out k hk).2) _) (fun k hk => (HN2.out k hk).2) _) (fun k hk => (HN2.out k hk).2) _) (fun k hk => (HN2.out k hk).2) _) (fun k hk => (HN2.out k hk).2) _) (fun _ _ => trivial), (below_set (below_set (below_set (below_set (below_set (below_set (HB.out.trans (HX7.out.mono HB.out.size)) (by omega)) (by omega)) (by omega)) (by omega)) (by omega)) (by omega))⟩
def catenaryref09_made.f (k : Nat) (a0_0 : Int) (a0_1 : Int) (l0_2 : List Int) (a0_3 : Bool) (a0_4 : Int) (a1_0 : Int) (a1_1 : Int) (a1_2 : Int) (a1_3 : Int) : Option (Int × Int × List Int × Bool × Int) := (madeOf k ⟨a0_0, a0_1, l0_2, a0_3, a0_4⟩ a1_0 a1_3).map fun r => (r.f0, r.f1, r.f2, r.f3, r.f4)
theorem catenaryref09_made.calls (k : Nat) (a0_0 : Int) (a0_1 : Int) (A0_2 : Option Addr) (c0_2 : Nat) (l0_2 : List Int) (a0_3 : Bool) (a0_4 : Int) (a1_0 : Int) (a1_1 : Int) (a1_2 : Int) (a1_3 : Int) (r1 : Int) (r2 : Int) (r3 : List Int) (r4 : Bool) (r5 : Int) (w : World) (hr0_2 : Kd.C (Kd.int .i64) w A0_2 l0_2.length l0_2) (hc0_2 : l0_2.length ≤ c0_2) (h : catenaryref09_made.f k a0_0 a0_1 l0_2 a0_3 a0_4 a1_0 a1_1 a1_2 a1_3 = some (r1, r2, r3, r4, r5)) :
  Calls Tryd.prog 65 #[.agg #[.int .i64 a0_0, .int .u64 a0_1, .slice A0_2 l0_2.length c0_2, .bool a0_3, .int .i64 a0_4], .agg #[.int .i64 a1_0, .int .i64 a1_1, .int .u64 a1_2, .int .i64 a1_3]] w fun e w' => ∃ v2_ : Value, e = .returned (.agg #[.int .i64 r1, .int .u64 r2, v2_, .bool r4, .int .i64 r5]) ∧ Kd.R (Kd.int .i64) 3 w' w.heap.size (fun _ => True) v2_ r3 ∧ Below w.heap.size w w' := by
 obtain ⟨r, hr, he⟩ := Option.map_eq_some_iff.1 h
 simp only [Prod.mk.injEq] at he
 obtain ⟨rfl, rfl, rfl, rfl, rfl⟩ := he
 exact made_any k ⟨a0_0, a0_1, l0_2, a0_3, a0_4⟩ A0_2 c0_2 a1_0 a1_1 a1_2 a1_3 r w hr0_2 hc0_2 hr
end Go.Proofs.YtlpkandfmbnlnaaDoor.Q
end
section
namespace Go.Proofs.YtlpkandfmbnlnaaDoor.Q
open Go.RowKit Go.Proofs.YtlpkandfmbnlnaaDoor.Q Go.Proofs.YtlpkandfmbnlnaaDoorW.PrintWords Go.Proofs.YtlpkandfmbnlnaaDoorW.PrintLast Go.Proofs.YtlpkandfmbnlnaaDoorW.PrintMore
set_option linter.unusedVariables false
set_option linter.unusedSimpArgs false
set_option maxRecDepth 100000
def stands (k : Nat) (x : S54) (n : Int) : Option Bool := (conf_everybody.f x.f0 x.f1 x.f2 x.f3 x.f4).bind fun e => slices_Contains_int_int.f k e n
theorem used1_any (k : Nat) (a0_0 : Int) (a0_1 : Int) (A0_2 : Option Addr) (c0_2 : Nat) (l0_2 : List Int) (a0_3 : Bool) (a0_4 : Int) (B : Nat) (n : Int) (r : Bool) (w : World) (hr : Kd.C (Kd.int .i64) w A0_2 l0_2.length l0_2) (hc : l0_2.length ≤ c0_2)
  (hn : w.cell? ⟨B, 0, none⟩ = some (.int .i64 n)) (h : stands k ⟨a0_0, a0_1, l0_2, a0_3, a0_4⟩ n = some r) :
  Calls Tryd.prog 72 #[.agg #[.int .i64 a0_0, .int .u64 a0_1, .slice A0_2 l0_2.length c0_2, .bool a0_3, .int .i64 a0_4], .pointer (some ⟨B, 0, none⟩)] w fun e w' => e = .returned (.bool r) ∧ Below w.heap.size w w' := by
 unfold stands at h
 simp only at h
 obtain ⟨es, he, hk⟩ := Option.bind_eq_some_iff.1 h
 have HE := fun W hb => Lib.hid (conf_everybody.calls a0_0 a0_1 A0_2 c0_2 l0_2 a0_3 a0_4 es W (Kd.C_below hr hb) hc he)
 have HK := Lib.hid hk
 have HR := Lib.hid hr
 clear h he hk
 go_enter Tryd.func72, Tryd.ntmps72
 go_wp2_with fail
 have HB := Lib.hid (show Below w.heap.size w (w.alloc (.cells #[.int .i64 a0_0, .int .u64 a0_1, .slice A0_2 l0_2.length c0_2, .bool a0_3, .int .i64 a0_4] 54)) by go_grown)
 have hnl := World.block_lt_of_cell? w _ hn
 have HN : Hid (∀ W, Below w.heap.size w W → W.cell? ⟨B, 0, none⟩ = some (.int .i64 n)) := Lib.hid (fun W hW => (hW.cell (p := ⟨B, 0, none⟩) hnl).trans hn)
 have HBd := Lib.hid HB.out.drew
 have hn1 := HN.out _ HB.out
 have HCq := Lib.hid hc
 clear hn hnl hr hc
 go_region_with (first
  | (go_at_call 67; refine (HE _ HBd.out).out.mono ?_; rintro e w1 ⟨v, rfl, h1, h2⟩; obtain ⟨A1, c1, rfl, hc1, hC1⟩ := Kd.R_reads h1; have HC1 := Lib.hid hC1; have HW1 := Lib.hid (HBd.out.trans (h2.mono HBd.out.size)); have hn2 := HN.out w1 HW1.out; clear h1 h2 hC1)
  | (go_at_call 73; refine (slices_Contains_int_int.calls k _ _ es n r _ HC1.out hc1 HK.out).mono ?_; rintro e w2 ⟨rfl, q, rfl⟩))
 all_goals (
  go_wp2_with fail
  go_ret
  exact ⟨rfl, HW1.out.trans ((Joins.below_draws _ _ _).mono HW1.out.size)⟩)
def usedL (k : Nat) (n : Int) : List S54 → Option Bool
 | [] => some false
 | x :: r => (stands k x n).bind fun b => if b = true then some true else usedL k n r
theorem indexf_any (k : Nat) (A0 : Option Addr) (c0 : Nat) (l0 : List S54) (B : Nat) (n : Int) (r : Bool) (w : World) (hr : Kd.C k54 w A0 l0.length l0)
  (hn : w.cell? ⟨B, 0, none⟩ = some (.int .i64 n)) (h : usedL k n l0 = some r) :
  Calls Tryd.prog 104 #[.slice A0 l0.length c0, .func (.func 72) #[] #[.pointer (some ⟨B, 0, none⟩)]] w fun e w' => ∃ i : Int, e = .returned (.int .i64 i) ∧ decide (i ≥ 0) = r ∧ Below w.heap.size w w' := by
 have hlen := hr.2.1
 have HR := Lib.hid hr
 have hnl := World.block_lt_of_cell? w _ hn
 have HN : Hid (∀ W, Below w.heap.size w W → W.cell? ⟨B, 0, none⟩ = some (.int .i64 n)) := Lib.hid (fun W hW => (hW.cell (p := ⟨B, 0, none⟩) hnl).trans hn)
 clear hr hn hnl
 go_enter Tryd.func104, Tryd.ntmps104
 go_wp2_with fail
 go_loopw [8] (fun i wr => ∃ j : Nat, j ≤ l0.length ∧ i = .int .i64 j ∧ Hid (usedL k n (l0.drop j) = some r ∧ Below w.heap.size w wr)) (fun i _ => l0.length - (intOf i).toNat)
 case atStart => exact ⟨0, by omega, rfl, by simpa using h, Below.refl _ _⟩
 case round =>
  obtain ⟨j, hj, rfl, HI⟩ := hrel
  clear h
  by_cases hlt : j < l0.length
  ·have b1 : decide ((j : Int) < l0.length) = true := by simp; omega
   obtain ⟨hu, hB⟩ := HI.out
   rw [List.drop_eq_getElem_cons hlt] at hu
   obtain ⟨ad, A2, c2, rfl, x0, x1, x2, x3, x4, l2, g2⟩ := at_T54 HR.out (j : Int) (by omega) (by omega)
   have hx : rd_T54 l0 (j : Int) = l0[j] := by simp [rd_T54, List.getD, hlt]
   rw [hx] at x0 x1 x2 x3 x4 l2 g2
   rw [Int.toNat_natCast] at x0 x1 x2 x3 x4
   obtain ⟨b, hb, hrest⟩ := Option.bind_eq_some_iff.1 hu
   generalize l0[j] = x at *
   have p0 := (hB.cell (World.block_lt_of_cell? w _ x0)).trans x0
   have p1 := (hB.cell (World.block_lt_of_cell? w _ x1)).trans x1
   have p2 := (hB.cell (World.block_lt_of_cell? w _ x2)).trans x2
   have p3 := (hB.cell (World.block_lt_of_cell? w _ x3)).trans x3
   have p4 := (hB.cell (World.block_lt_of_cell? w _ x4)).trans x4
   have HU := Lib.hid (used1_any k x.f0 x.f1 A2 c2 x.f2 x.f3 x.f4 B n b wr (Kd.C_below g2 hB) l2 (HN.out wr hB) hb)
   have HB := Lib.hid hB
   have HRest := Lib.hid hrest
   clear x0 x1 x2 x3 x4 l2 g2 hu hb hrest hB hx HI
   go_wp2_with fail
   refine HU.out.mono ?_
   rintro e w1 ⟨rfl, h1⟩
   have HB1 := Lib.hid (HB.out.trans (h1.mono HB.out.size))
   clear h1
   cases b with
   | true =>
    have hr1 : true = r := by simpa using HRest.out
    subst hr1
    go_wp2_with fail
    go_ret
    exact ⟨_, rfl, by simp, HB1.out⟩
   | false =>
    have hr1 : usedL k n (l0.drop (j + 1)) = some r := by simpa using HRest.out
    have HR1 := Lib.hid hr1
    clear hr1 HRest
    go_wp2_with fail
    go_roundw
    case rel => exact ⟨j + 1, by omega, by go_num, HR1.out, HB1.out⟩
    case measure => simp [intOf]; omega
  ·have hjl : j = l0.length := by omega
   have b1 : decide ((j : Int) < l0.length) = false := by simp; omega
   obtain ⟨hu, hB⟩ := HI.out
   have hr1 : false = r := by
    rw [hjl, List.drop_of_length_le (Nat.le_refl _)] at hu
    exact Option.some.inj hu
   have HB := Lib.hid hB
   clear hu hB HI
   subst hr1
   go_wp2_with fail
   go_ret
   exact ⟨_, rfl, by simp, HB.out⟩
theorem containsf_any (k : Nat) (A0 : Option Addr) (c0 : Nat) (l0 : List S54) (B : Nat) (n : Int) (r : Bool) (w : World) (hr : Kd.C k54 w A0 l0.length l0)
  (hn : w.cell? ⟨B, 0, none⟩ = some (.int .i64 n)) (h : usedL k n l0 = some r) :
  Calls Tryd.prog 71 #[.slice A0 l0.length c0, .func (.func 72) #[] #[.pointer (some ⟨B, 0, none⟩)]] w fun e w' => e = .returned (.bool r) ∧ Below w.heap.size w w' := by
 have HI := Lib.hid (indexf_any k A0 c0 l0 B n r w hr hn h)
 clear hr hn h
 go_enter Tryd.func71, Tryd.ntmps71
 go_wp2_with fail
 refine HI.out.mono ?_
 rintro e w1 ⟨i, rfl, rfl, h1⟩
 have HB1 := Lib.hid h1
 clear h1
 go_wp2_with fail
 go_ret
 exact ⟨by simp, HB1.out⟩
def conf_Used.f (k : Nat) (l0 : List S54) (a1 : Int) : Option Bool := usedL k a1 l0
theorem conf_Used.calls (k : Nat) (A0 : Option Addr) (c0 : Nat) (l0 : List (S54)) (a1 : Int) (r : Bool) (w : World) (hr0 : Kd.C k54 w A0 l0.length l0) (hc0 : l0.length ≤ c0) (h : conf_Used.f k l0 a1 = some r) :
  Calls Tryd.prog 38 #[.slice A0 l0.length c0, .int .i64 a1] w fun e w' => e = .returned (.bool r) ∧ Below w.heap.size w w' := by
 have HB := Lib.hid (show Below w.heap.size w (w.alloc (.cells #[.int .i64 a1] 3)) by go_grown)
 have HI := Lib.hid (containsf_any k A0 c0 l0 w.heap.size a1 r (w.alloc (.cells #[.int .i64 a1] 3)) (Kd.C_below hr0 HB.out) (by simp) h)
 have hmf : ∀ (fn : Fn) (first cap : Array Value) (w : World), (Instr.makeFunc fn first cap).run Tryd.prog w = .ok (.func fn first cap) w := fun _ _ _ _ => rfl
 clear hr0 h
 go_enter Tryd.func38, Tryd.ntmps38
 go_wp2_with fail
 refine HI.out.mono ?_
 rintro e w1 ⟨rfl, h1⟩
 have HB1 := Lib.hid (HB.out.trans (h1.mono HB.out.size))
 clear h1
 go_wp2_with fail
 go_ret
 exact ⟨rfl, HB1.out⟩
end Go.Proofs.YtlpkandfmbnlnaaDoor.Q
end
section
namespace Go.Proofs.YtlpkandfmbnlnaaDoor.Q
end Go.Proofs.YtlpkandfmbnlnaaDoor.Q
namespace Go.Proofs.YtlpkandfmbnlnaaDoor.R
end Go.Proofs.YtlpkandfmbnlnaaDoor.R
namespace Go.Proofs.YtlpkandfmbnlnaaDoor.Q
open Go.RowKit Go.Proofs.YtlpkandfmbnlnaaDoorW.PrintWords Go.Proofs.YtlpkandfmbnlnaaDoorW.PrintLast Go.Proofs.YtlpkandfmbnlnaaDoorW.PrintMore
attribute [local go_sem] max2_int min2_int max_two min_two max_three min_three max_four min_four   -- for this text's walks alone
set_option linter.unusedVariables false
set_option linter.unusedSimpArgs false
open Go.Proofs.YtlpkandfmbnlnaaDoor.Q Go.Proofs.YtlpkandfmbnlnaaDoor.R
def conf_canAppend.j0 : Nat → Bool → Int → Int → List Int → Bool → Int → Option (Int)
 | 0, _, _, _, _, _, _ => none
 | k + 1, x11, x155000, x155001, x155002, x155003, x155004 => if x11 = true then (some 12) else (if (x155002.length : Int) ≥ 5 then (some 9) else (some 0))
def conf_canAppend.f (k : Nat) (l0 : List (S54)) (a1_0 : Int) (a1_1 : Int) (l1_2 : List Int) (a1_3 : Bool) (a1_4 : Int) (a2 : Int) : Option (Int) := (conf_Used.f k l0 a2).bind fun t155 => (if t155 = true then (some 8) else (if a1_4 = 0 then (conf_canAppend.j0 k a1_3 a1_0 a1_1 l1_2 a1_3 a1_4) else (conf_canAppend.j0 k true a1_0 a1_1 l1_2 a1_3 a1_4)))
set_option maxHeartbeats 8000000 in
set_option maxRecDepth 100000 in
theorem conf_canAppend.calls (k : Nat) (A0 : Option Addr) (c0 : Nat) (l0 : List (S54)) (a1_0 : Int) (a1_1 : Int) (A1_2 : Option Addr) (c1_2 : Nat) (l1_2 : List Int) (a1_3 : Bool) (a1_4 : Int) (a2 : Int) (r : Int) (w : World) (hr0 : Kd.C k54 w A0 l0.length l0) (hc0 : l0.length ≤ c0) (hr1_2 : Kd.C (Kd.int .i64) w A1_2 l1_2.length l1_2) (hc1_2 : l1_2.length ≤ c1_2) (h : conf_canAppend.f k l0 a1_0 a1_1 l1_2 a1_3 a1_4 a2 = some r) :
  Calls Tryd.prog 96 #[.slice A0 l0.length c0, .agg #[.int .i64 a1_0, .int .u64 a1_1, .slice A1_2 l1_2.length c1_2, .bool a1_3, .int .i64 a1_4], .int .i64 a2] w fun e w' => e = .returned (.int .i64 r) ∧ Below w.heap.size w w' := by
 have hu54 := Tryd.underlying54
 have HR0 := am_ hr0
 have HC0 := am_ hc0
 clear hr0 hc0
 have HR1_2 := am_ hr1_2
 have HC1_2 := am_ hc1_2
 clear hr1_2 hc1_2
 have HB := am_ (Below.refl w.heap.size w)
 have H : ((conf_Used.f k l0 a2).bind fun t155 => (if t155 = true then (some 8) else (if a1_4 = 0 then (conf_canAppend.j0 k a1_3 a1_0 a1_1 l1_2 a1_3 a1_4) else (conf_canAppend.j0 k true a1_0 a1_1 l1_2 a1_3 a1_4)))) = some r := h
 clear h
 replace H := Option.bind_eq_some_iff.mp H
 obtain ⟨t155, A40, H⟩ := H
 replace H : (if t155 = true then (some 8) else (if a1_4 = 0 then (conf_canAppend.j0 k a1_3 a1_0 a1_1 l1_2 a1_3 a1_4) else (conf_canAppend.j0 k true a1_0 a1_1 l1_2 a1_3 a1_4))) = some r := H
 have A4 := am_ A40
 clear A40
 by_cases c5 : t155 = true
 ·subst c5
  have H1 : (some 8) = some r := by rw [if_pos rfl] at H; exact H
  clear H
  have H := H1
  clear H1
  obtain rfl := Option.some.inj H
  go_enter Tryd.func96, Tryd.ntmps96
  go_wp2_with (first | ((with_reducible refine gate_dst (N := 4) rfl ?_); refine box_event ?hg (N := 4) ?hd (cs := #[.int .i64 a1_0, .int .u64 a1_1, .slice A1_2 l1_2.length c1_2, .bool a1_3, .int .i64 a1_4]) (t := 54) ?hr ?_; (case hd => rfl); (case hg => rfl); (case hr => first | (go_simp; done) | (go_simp; rfl)); intro gb154 hg w6 hbox hb; have n0_ := am_ (bt_ (by repeat (first | (with_reducible first | exact HB.out | apply ba_ | apply bn_ | apply bd_) | exact HB.out)) hb); have n1_ := am_ (hbox); have n2_ := am_ ((by rw [hg]; exact (bs_ (by repeat (first | (with_reducible first | exact HB.out | apply ba_ | apply bn_ | apply bd_) | exact HB.out))) : w.heap.size ≤ gb154)); have n3_ := am_ ((by rw [hg]; exact (bs_ (by repeat (first | (with_reducible first | exact HB.out | apply ba_ | apply bn_ | apply bd_) | exact HB.out))) : w.heap.size ≤ gb154)); clear HB; have HB := n0_; have BK154 := n1_; have GW154 := n2_; have GE154 := n3_; clear n0_ n1_ n2_ n3_; clear hb hbox hg) | ((with_reducible refine gate_callee (f := 38) rfl ?_); refine goesL_ (some 10) rfl rfl Tryd.func38 (by kernel_rfl) rfl #[.slice A0 l0.length c0, .int .i64 a2] rfl (by (try simp only [List.map_toArray, List.map_cons, List.map_nil]); first | done | rfl | (simp only [List.length_drop, lt_]; rfl)) ?_; (with_reducible refine (conf_Used.calls k _ _ l0 a2 true _ ?side1 ?side2 A4.out).mono ?_); (case side1 => repeat (first | exact (Kd.C_below HR0.out HB.out) | (with_reducible refine Kd.C_alloc ?_ _) | (with_reducible refine Kd.C_drewN ?_ _) | (with_reducible refine Kd.C_drew ?_))); (case side2 => exact HC0.out); rintro e w7 ⟨rfl, hb⟩; refine ⟨_, rfl, ?_⟩; have n0_ := am_ (blk_below (g := gb154) (o := .cells #[.int .i64 a1_0, .int .u64 a1_1, .slice A1_2 l1_2.length c1_2, .bool a1_3, .int .i64 a1_4] 54 (0, 0)) (by (with_reducible repeat (first | refine bw_ ?_ _ | refine bx_ ?_ | refine bl_ ?_ _)); exact BK154.out) hb); have n1_ := am_ (bt_ (by repeat (first | (with_reducible first | exact HB.out | apply ba_ | apply bn_ | apply bd_ | refine be_ ?_ GE154.out) | exact HB.out)) hb); clear BK154; clear HB; have BK154 := n0_; have HB := n1_; clear n0_ n1_; (try clear hb); (try clear hb2); (try clear hk); (try clear hi)))
  go_ret
  exact ⟨by first | rfl | (simp [errW_none, errW_some] <;> rfl) | (simp [*, errW_none, errW_some] <;> rfl), by repeat (first | (with_reducible first | exact HB.out | apply ba_ | apply bn_ | apply bd_ | refine be_ ?_ GE154.out) | exact HB.out)⟩
 ·replace c5 := Bool.eq_false_iff.mpr c5
  subst c5
  have H1 : (if a1_4 = 0 then (conf_canAppend.j0 k a1_3 a1_0 a1_1 l1_2 a1_3 a1_4) else (conf_canAppend.j0 k true a1_0 a1_1 l1_2 a1_3 a1_4)) = some r := by rw [if_neg (show ¬ (false = true) by decide)] at H; exact H
  clear H
  have H := H1
  clear H1
  have HC8 := am_ H
  clear H
  go_enter Tryd.func96, Tryd.ntmps96
  go_upto_region 3 with (first | ((with_reducible refine gate_dst (N := 4) rfl ?_); refine box_event ?hg (N := 4) ?hd (cs := #[.int .i64 a1_0, .int .u64 a1_1, .slice A1_2 l1_2.length c1_2, .bool a1_3, .int .i64 a1_4]) (t := 54) ?hr ?_; (case hd => rfl); (case hg => rfl); (case hr => first | (go_simp; done) | (go_simp; rfl)); intro gb154 hg w9 hbox hb; have n0_ := am_ (bt_ (by repeat (first | (with_reducible first | exact HB.out | apply ba_ | apply bn_ | apply bd_) | exact HB.out)) hb); have n1_ := am_ (hbox); have n2_ := am_ ((by rw [hg]; exact (bs_ (by repeat (first | (with_reducible first | exact HB.out | apply ba_ | apply bn_ | apply bd_) | exact HB.out))) : w.heap.size ≤ gb154)); have n3_ := am_ ((by rw [hg]; exact (bs_ (by repeat (first | (with_reducible first | exact HB.out | apply ba_ | apply bn_ | apply bd_) | exact HB.out))) : w.heap.size ≤ gb154)); clear HB; have HB := n0_; have BK154 := n1_; have GW154 := n2_; have GE154 := n3_; clear n0_ n1_ n2_ n3_; clear hb hbox hg) | ((with_reducible refine gate_callee (f := 38) rfl ?_); refine goesL_ (some 10) rfl rfl Tryd.func38 (by kernel_rfl) rfl #[.slice A0 l0.length c0, .int .i64 a2] rfl (by (try simp only [List.map_toArray, List.map_cons, List.map_nil]); first | done | rfl | (simp only [List.length_drop, lt_]; rfl)) ?_; (with_reducible refine (conf_Used.calls k _ _ l0 a2 false _ ?side1 ?side2 A4.out).mono ?_); (case side1 => repeat (first | exact (Kd.C_below HR0.out HB.out) | (with_reducible refine Kd.C_alloc ?_ _) | (with_reducible refine Kd.C_drewN ?_ _) | (with_reducible refine Kd.C_drew ?_))); (case side2 => exact HC0.out); rintro e w10 ⟨rfl, hb⟩; refine ⟨_, rfl, ?_⟩; have n0_ := am_ (blk_below (g := gb154) (o := .cells #[.int .i64 a1_0, .int .u64 a1_1, .slice A1_2 l1_2.length c1_2, .bool a1_3, .int .i64 a1_4] 54 (0, 0)) (by (with_reducible repeat (first | refine bw_ ?_ _ | refine bx_ ?_ | refine bl_ ?_ _)); exact BK154.out) hb); have n1_ := am_ (bt_ (by repeat (first | (with_reducible first | exact HB.out | apply ba_ | apply bn_ | apply bd_ | refine be_ ?_ GE154.out) | exact HB.out)) hb); clear BK154; clear HB; have BK154 := n0_; have HB := n1_; clear n0_ n1_; (try clear hb); (try clear hb2); (try clear hk); (try clear hi)))
  (try simp only [Act.put, sa_, sz_, ss_])
  go_cut [11] (fun v11 wc => ∃ (kq : Nat) (x11_7 : Bool), v11 = .bool x11_7 ∧ Aside0 (conf_canAppend.j0 kq x11_7 a1_0 a1_1 l1_2 a1_3 a1_4 = some r) ∧ Aside0 (kq ≤ k) ∧ Aside0 (wc.heap[gb154]? = some (.cells #[.int .i64 a1_0, .int .u64 a1_1, (.slice A1_2 l1_2.length c1_2), .bool a1_3, .int .i64 a1_4] 54 (0, 0))) ∧ Aside0 (Below w.heap.size w wc))
  case first =>
   have H := HC8.out
   clear HC8
   by_cases c11 : a1_4 = 0
   ·rw [if_pos c11] at H
    have c11b0 : (a1_4 == 0) = true := beq_iff_eq.mpr c11
    have c11b1 : (a1_4 != 0) = false := bne_eq_false_iff_eq.mpr c11
    clear c11
    (first | rw [c11b0] | (simp only [i64_w, i32_w]; rw [c11b0]) | skip)
    have H' := am_ H
    clear H
    have hcz12_0 : w10.cell? ⟨gb154, 0, none⟩ = some (.int .i64 a1_0) := (bc_ BK154.out 0).trans rfl
    have hcz12_1 : w10.cell? ⟨gb154, 1, none⟩ = some (.int .u64 a1_1) := (bc_ BK154.out 1).trans rfl
    have hcz12_2 : w10.cell? ⟨gb154, 2, none⟩ = some (.slice A1_2 l1_2.length c1_2) := (bc_ BK154.out 2).trans rfl
    have hcz12_3 : w10.cell? ⟨gb154, 3, none⟩ = some (.bool a1_3) := (bc_ BK154.out 3).trans rfl
    have hcz12_4 : w10.cell? ⟨gb154, 4, none⟩ = some (.int .i64 a1_4) := (bc_ BK154.out 4).trans rfl
    have hfz12_0 := bf_ BK154.out 0
    have hfz12_1 := bf_ BK154.out 1
    have hfz12_2 := bf_ BK154.out 2
    have hfz12_3 := bf_ BK154.out 3
    have hfz12_4 := bf_ BK154.out 4
    go_wp2
    go_meet
    case rel => exact ⟨_, (a1_3), (by first | rfl | (simp; done) | (simp [*]; done)), H', ⟨by first | omega | exact Nat.le_refl _⟩, ⟨by (with_reducible repeat (first | refine bw_ ?_ _ | refine bx_ ?_ | refine bl_ ?_ _)); exact BK154.out⟩, ⟨by repeat (first | (with_reducible first | exact HB.out | apply ba_ | apply bn_ | apply bd_ | refine be_ ?_ GE154.out) | exact HB.out)⟩⟩
   ·rw [if_neg c11] at H
    have c11b0 : (a1_4 == 0) = false := beq_eq_false_iff_ne.mpr c11
    have c11b1 : (a1_4 != 0) = true := bne_iff_ne.mpr c11
    (first | rw [c11b0] | (simp only [i64_w, i32_w]; rw [c11b0]) | skip)
    have H' := am_ H
    clear H
    have hcz13_0 : w10.cell? ⟨gb154, 0, none⟩ = some (.int .i64 a1_0) := (bc_ BK154.out 0).trans rfl
    have hcz13_1 : w10.cell? ⟨gb154, 1, none⟩ = some (.int .u64 a1_1) := (bc_ BK154.out 1).trans rfl
    have hcz13_2 : w10.cell? ⟨gb154, 2, none⟩ = some (.slice A1_2 l1_2.length c1_2) := (bc_ BK154.out 2).trans rfl
    have hcz13_3 : w10.cell? ⟨gb154, 3, none⟩ = some (.bool a1_3) := (bc_ BK154.out 3).trans rfl
    have hcz13_4 : w10.cell? ⟨gb154, 4, none⟩ = some (.int .i64 a1_4) := (bc_ BK154.out 4).trans rfl
    have hfz13_0 := bf_ BK154.out 0
    have hfz13_1 := bf_ BK154.out 1
    have hfz13_2 := bf_ BK154.out 2
    have hfz13_3 := bf_ BK154.out 3
    have hfz13_4 := bf_ BK154.out 4
    go_wp2
    go_meet
    case rel => exact ⟨_, (true), (by first | rfl | (simp; done) | (simp [*]; done)), H', ⟨by first | omega | exact Nat.le_refl _⟩, ⟨by (with_reducible repeat (first | refine bw_ ?_ _ | refine bx_ ?_ | refine bl_ ?_ _)); exact BK154.out⟩, ⟨by repeat (first | (with_reducible first | exact HB.out | apply ba_ | apply bn_ | apply bd_ | refine be_ ?_ GE154.out) | exact HB.out)⟩⟩
  case rest =>
   clear HC8
   try clear c1
   try clear p2
   try clear c3
   try clear c5
   try clear c9
   try clear c11
   try clear c11b0
   try clear c11b1
   try clear hcz12_0
   try clear hcz12_1
   try clear hcz12_2
   try clear hcz12_3
   try clear hcz12_4
   try clear hcz13_0
   try clear hcz13_1
   try clear hcz13_2
   try clear hcz13_3
   try clear hcz13_4
   try clear hfz12_0
   try clear hfz12_1
   try clear hfz12_2
   try clear hfz12_3
   try clear hfz12_4
   try clear hfz13_0
   try clear hfz13_1
   try clear hfz13_2
   try clear hfz13_3
   try clear hfz13_4
   obtain ⟨kq, x11_7, rfl, HA, HJ7, BK154, HB⟩ := hcut
   cases kq with
   | zero => exact absurd HA.out (by simp [conf_canAppend.j0])
   | succ kj7 =>
    have H := HA.out
    clear HA
    simp only [conf_canAppend.j0] at H
    by_cases c14 : x11_7 = true
    ·subst c14
     have H1 : (some 12) = some r := by rw [if_pos rfl] at H; exact H
     clear H
     have H := H1
     clear H1
     obtain rfl := Option.some.inj H
     go_wp2
     go_ret
     exact ⟨by first | rfl | (simp [errW_none, errW_some] <;> rfl) | (simp [*, errW_none, errW_some] <;> rfl), by repeat (first | (with_reducible first | exact HB.out | apply ba_ | apply bn_ | apply bd_ | refine be_ ?_ GE154.out) | exact HB.out)⟩
    ·replace c14 := Bool.eq_false_iff.mpr c14
     subst c14
     have H1 : (if (l1_2.length : Int) ≥ 5 then (some 9) else (some 0)) = some r := by rw [if_neg (show ¬ (false = true) by decide)] at H; exact H
     clear H
     have H := H1
     clear H1
     by_cases c15 : (l1_2.length : Int) ≥ 5
     ·rw [if_pos c15] at H
      have c15b0 : decide (5 ≤ (l1_2.length : Int)) = true := decide_eq_true c15
      have c15b1 : decide (5 ≤ l1_2.length) = true := decide_eq_true (by omega)
      clear c15
      obtain rfl := Option.some.inj H
      have hcz16_0 : wc.cell? ⟨gb154, 0, none⟩ = some (.int .i64 a1_0) := (bc_ BK154.out 0).trans rfl
      have hcz16_1 : wc.cell? ⟨gb154, 1, none⟩ = some (.int .u64 a1_1) := (bc_ BK154.out 1).trans rfl
      have hcz16_2 : wc.cell? ⟨gb154, 2, none⟩ = some (.slice A1_2 l1_2.length c1_2) := (bc_ BK154.out 2).trans rfl
      have hcz16_3 : wc.cell? ⟨gb154, 3, none⟩ = some (.bool a1_3) := (bc_ BK154.out 3).trans rfl
      have hcz16_4 : wc.cell? ⟨gb154, 4, none⟩ = some (.int .i64 a1_4) := (bc_ BK154.out 4).trans rfl
      have hfz16_0 := bf_ BK154.out 0
      have hfz16_1 := bf_ BK154.out 1
      have hfz16_2 := bf_ BK154.out 2
      have hfz16_3 := bf_ BK154.out 3
      have hfz16_4 := bf_ BK154.out 4
      go_wp2
      go_ret
      exact ⟨by first | rfl | (simp [errW_none, errW_some] <;> rfl) | (simp [*, errW_none, errW_some] <;> rfl), by repeat (first | (with_reducible first | exact HB.out | apply ba_ | apply bn_ | apply bd_ | refine be_ ?_ GE154.out) | exact HB.out)⟩
     ·rw [if_neg c15] at H
      have c15b0 : decide (5 ≤ (l1_2.length : Int)) = false := decide_eq_false c15
      have c15b1 : decide (5 ≤ l1_2.length) = false := decide_eq_false (by omega)
      clear c15
      obtain rfl := Option.some.inj H
      have hcz17_0 : wc.cell? ⟨gb154, 0, none⟩ = some (.int .i64 a1_0) := (bc_ BK154.out 0).trans rfl
      have hcz17_1 : wc.cell? ⟨gb154, 1, none⟩ = some (.int .u64 a1_1) := (bc_ BK154.out 1).trans rfl
      have hcz17_2 : wc.cell? ⟨gb154, 2, none⟩ = some (.slice A1_2 l1_2.length c1_2) := (bc_ BK154.out 2).trans rfl
      have hcz17_3 : wc.cell? ⟨gb154, 3, none⟩ = some (.bool a1_3) := (bc_ BK154.out 3).trans rfl
      have hcz17_4 : wc.cell? ⟨gb154, 4, none⟩ = some (.int .i64 a1_4) := (bc_ BK154.out 4).trans rfl
      have hfz17_0 := bf_ BK154.out 0
      have hfz17_1 := bf_ BK154.out 1
      have hfz17_2 := bf_ BK154.out 2
      have hfz17_3 := bf_ BK154.out 3
      have hfz17_4 := bf_ BK154.out 4
      go_wp2
      go_ret
      exact ⟨by first | rfl | (simp [errW_none, errW_some] <;> rfl) | (simp [*, errW_none, errW_some] <;> rfl), by repeat (first | (with_reducible first | exact HB.out | apply ba_ | apply bn_ | apply bd_ | refine be_ ?_ GE154.out) | exact HB.out)⟩
def catenaryref09_Do.f (k : Nat) (l0 : List (S54)) (a1_0 : Int) (a1_1 : Int) (a1_2 : Int) (a1_3 : Int) : Option ((List (S54)) × Bool) := (catenaryref09_Can.f k l0 a1_0 a1_1 a1_2 a1_3).bind fun t276 => (if t276 = 0 then (if a1_0 = 0 then (some (l0, true)) else (if ([] : List (S54)).length + l0.length < 2513169434916 then ((some (([] : List (S54)) ++ l0 : List (S54))).bind fun y277 => (if 0 ≤ a1_1 then (if a1_1 < (l0.length : Int) then ((catenaryref09_made.f k ((rd_T54 l0 a1_1).f0) ((rd_T54 l0 a1_1).f1) ((rd_T54 l0 a1_1).f2) ((rd_T54 l0 a1_1).f3) ((rd_T54 l0 a1_1).f4) a1_0 a1_1 a1_2 a1_3).bind fun bt281 => (if a1_1 < (y277.length : Int) then (some ((y277.set (a1_1 : Int).toNat (⟨bt281.1, bt281.2.1, bt281.2.2.1, bt281.2.2.2.1, bt281.2.2.2.2⟩ : S54)), true)) else (none))) else (none)) else (none))) else (none))) else (some (l0, false)))
def catenaryref09_Do.T6 : Bool × List (List Nat × List Nat) := (true, [([], []), ([], []), ([1], [1]), ([], []), ([], []), ([4], [4]), ([3, 5], [3, 5]), ([6], [6]), ([], []), ([7, 8], [7, 8]), ([0, 2, 0, 1, 2, 3, 4, 5, 6, 7, 8, 9], [0, 2]), ([10, 9, 9, 0, 1, 2, 3, 4, 5, 6, 7, 8, 9], [9, 10])])
def catenaryref09_Do.B6 : List Nat := [0, 0, 2, 0, 0, 16, 56, 120, 0, 504, 1023, 2047]
theorem catenaryref09_Do.tab6 : rtab .any (opsOf Tryd.f29 6) = catenaryref09_Do.T6 := by kernel_rfl
theorem catenaryref09_Do.bits6 : waitsOk catenaryref09_Do.T6.2 catenaryref09_Do.B6 = true := by kernel_rfl
set_option maxHeartbeats 8000000 in
set_option maxRecDepth 100000 in
theorem catenaryref09_Do.calls (k : Nat) (P0_ : Nat → Prop) (A0 : Option Addr) (c0 : Nat) (l0 : List (S54)) (a1_0 : Int) (a1_1 : Int) (a1_2 : Int) (a1_3 : Int) (r1 : List (S54)) (r2 : Bool) (w : World) (hs0 : Kd.V k54 54 w w.heap.size (fun k_ => P0_ k_) (.slice A0 l0.length c0) l0) (h : catenaryref09_Do.f k l0 a1_0 a1_1 a1_2 a1_3 = some (r1, r2)) :
  Calls Tryd.prog 29 #[.slice A0 l0.length c0, .agg #[.int .i64 a1_0, .int .i64 a1_1, .int .u64 a1_2, .int .i64 a1_3]] w fun e w' => ∃ v0_ : Value, e = .returned (.tuple #[v0_, .bool r2]) ∧ Kd.V k54 54 w' w.heap.size (fun k_ => (P0_ k_ ∨ w.heap.size ≤ k_)) v0_ r1 ∧ Below w.heap.size w w' := by
 have hu24 := Tryd.underlying24
 have hu54 := Tryd.underlying54
 have HO0 := am_ (show Kd.V k54 54 w w.heap.size (fun k_ => (P0_ k_ ∨ w.heap.size ≤ k_)) (.slice A0 l0.length c0) l0 from Kd.V_mono hs0 (fun k_ hk => .inl hk))
 have HB := am_ (Below.refl w.heap.size w)
 have H : ((catenaryref09_Can.f k l0 a1_0 a1_1 a1_2 a1_3).bind fun t276 => (if t276 = 0 then (if a1_0 = 0 then (some (l0, true)) else (if ([] : List (S54)).length + l0.length < 2513169434916 then ((some (([] : List (S54)) ++ l0 : List (S54))).bind fun y277 => (if 0 ≤ a1_1 then (if a1_1 < (l0.length : Int) then ((catenaryref09_made.f k ((rd_T54 l0 a1_1).f0) ((rd_T54 l0 a1_1).f1) ((rd_T54 l0 a1_1).f2) ((rd_T54 l0 a1_1).f3) ((rd_T54 l0 a1_1).f4) a1_0 a1_1 a1_2 a1_3).bind fun bt281 => (if a1_1 < (y277.length : Int) then (some ((y277.set (a1_1 : Int).toNat (⟨bt281.1, bt281.2.1, bt281.2.2.1, bt281.2.2.2.1, bt281.2.2.2.2⟩ : S54)), true)) else (none))) else (none)) else (none))) else (none))) else (some (l0, false)))) = some (r1, r2) := h
 clear h
 replace H := Option.bind_eq_some_iff.mp H
 obtain ⟨t276, A30, H⟩ := H
 replace H : (if t276 = 0 then (if a1_0 = 0 then (some (l0, true)) else (if ([] : List (S54)).length + l0.length < 2513169434916 then ((some (([] : List (S54)) ++ l0 : List (S54))).bind fun y277 => (if 0 ≤ a1_1 then (if a1_1 < (l0.length : Int) then ((catenaryref09_made.f k ((rd_T54 l0 a1_1).f0) ((rd_T54 l0 a1_1).f1) ((rd_T54 l0 a1_1).f2) ((rd_T54 l0 a1_1).f3) ((rd_T54 l0 a1_1).f4) a1_0 a1_1 a1_2 a1_3).bind fun bt281 => (if a1_1 < (y277.length : Int) then (some ((y277.set (a1_1 : Int).toNat (⟨bt281.1, bt281.2.1, bt281.2.2.1, bt281.2.2.2.1, bt281.2.2.2.2⟩ : S54)), true)) else (none))) else (none)) else (none))) else (none))) else (some (l0, false))) = some (r1, r2) := H
 have A3 := am_ A30
 clear A30
 by_cases c4 : t276 = 0
 ·rw [if_pos c4] at H
  have c4b0 : (t276 == 0) = true := beq_iff_eq.mpr c4
  have c4b1 : (t276 != 0) = false := bne_eq_false_iff_eq.mpr c4
  clear c4
  by_cases c5 : a1_0 = 0
  ·rw [if_pos c5] at H
   have c5b0 : (a1_0 == 0) = true := beq_iff_eq.mpr c5
   have c5b1 : (a1_0 != 0) = false := bne_eq_false_iff_eq.mpr c5
   clear c5
   simp only [Option.some.injEq, Prod.mk.injEq] at H
   obtain ⟨rfl, rfl⟩ := H
   go_enter Tryd.func29, Tryd.ntmps29
   go_wp2_with (first | ((with_reducible refine gate_dst (N := 3) rfl ?_); refine box_event ?hg (N := 3) ?hd (cs := #[.int .i64 a1_0, .int .i64 a1_1, .int .u64 a1_2, .int .i64 a1_3]) (t := 24) ?hr ?_; (case hd => rfl); (case hg => rfl); (case hr => first | (go_simp; done) | (go_simp; rfl)); intro gb275 hg w6 hbox hb; have n0_ := am_ (Kd.V_below (Kd.V_elderB (by (with_reducible repeat (first | apply Kd.V_alloc | apply Kd.V_drewN | apply Kd.V_drew)); exact HO0.out) gb275 (Nat.le_of_eq hg.symm)) hb); have n1_ := am_ (bt_ (by repeat (first | (with_reducible first | exact HB.out | apply ba_ | apply bn_ | apply bd_) | exact HB.out)) hb); have n2_ := am_ (hbox); have n3_ := am_ ((by rw [hg]; exact (bs_ (by repeat (first | (with_reducible first | exact HB.out | apply ba_ | apply bn_ | apply bd_) | exact HB.out))) : w.heap.size ≤ gb275)); have n4_ := am_ ((by rw [hg]; exact (bs_ (by repeat (first | (with_reducible first | exact HB.out | apply ba_ | apply bn_ | apply bd_) | exact HB.out))) : w.heap.size ≤ gb275)); clear HO0; clear HB; have HO0 := n0_; have HB := n1_; have BK275 := n2_; have GW275 := n3_; have GE275 := n4_; clear n0_ n1_ n2_ n3_ n4_; clear hb hbox hg; have hcz7_0 : w6.cell? ⟨gb275, 0, none⟩ = some (.int .i64 a1_0) := (bc_ BK275.out 0).trans rfl; have hcz7_1 : w6.cell? ⟨gb275, 1, none⟩ = some (.int .i64 a1_1) := (bc_ BK275.out 1).trans rfl; have hcz7_2 : w6.cell? ⟨gb275, 2, none⟩ = some (.int .u64 a1_2) := (bc_ BK275.out 2).trans rfl; have hcz7_3 : w6.cell? ⟨gb275, 3, none⟩ = some (.int .i64 a1_3) := (bc_ BK275.out 3).trans rfl; have hfz7_0 := bf_ BK275.out 0; have hfz7_1 := bf_ BK275.out 1; have hfz7_2 := bf_ BK275.out 2; have hfz7_3 := bf_ BK275.out 3) | ((with_reducible refine gate_callee (f := 27) rfl ?_); refine goesL_ (some 9) rfl rfl Tryd.func27 (by kernel_rfl) rfl #[.slice A0 l0.length c0, .agg #[.int .i64 a1_0, .int .i64 a1_1, .int .u64 a1_2, .int .i64 a1_3]] rfl (by (try simp only [List.map_toArray, List.map_cons, List.map_nil]); first | done | rfl | (simp only [List.length_drop, lt_]; rfl)) ?_; (with_reducible refine (catenaryref09_Can.calls k _ _ l0 a1_0 a1_1 a1_2 a1_3 t276 _ ?side1 ?side2 A3.out).mono ?_); (case side1 => repeat (first | exact (Kd.V_reads' HO0.out).2.2 | (with_reducible refine Kd.C_alloc ?_ _) | (with_reducible refine Kd.C_drewN ?_ _) | (with_reducible refine Kd.C_drew ?_))); (case side2 => exact (Kd.V_reads' HO0.out).2.1); rintro e w8 ⟨rfl, hb⟩; refine ⟨_, rfl, ?_⟩; have n0_ := am_ (Kd.V_below (by (with_reducible repeat (first | apply Kd.V_alloc | apply Kd.V_drewN | apply Kd.V_drew)); exact HO0.out) hb); have n1_ := am_ (blk_below (g := gb275) (o := .cells #[.int .i64 a1_0, .int .i64 a1_1, .int .u64 a1_2, .int .i64 a1_3] 24 (0, 0)) (by (with_reducible repeat (first | refine bw_ ?_ _ | refine bx_ ?_ | refine bl_ ?_ _)); exact BK275.out) hb); have n2_ := am_ (bt_ (by repeat (first | (with_reducible first | exact HB.out | apply ba_ | apply bn_ | apply bd_ | refine be_ ?_ GE275.out) | exact HB.out)) hb); clear HO0; clear BK275; clear HB; have HO0 := n0_; have BK275 := n1_; have HB := n2_; clear n0_ n1_ n2_; (try clear hb); (try clear hb2); (try clear hk); (try clear hi); have hcz9_0 : w8.cell? ⟨gb275, 0, none⟩ = some (.int .i64 a1_0) := (bc_ BK275.out 0).trans rfl; have hcz9_1 : w8.cell? ⟨gb275, 1, none⟩ = some (.int .i64 a1_1) := (bc_ BK275.out 1).trans rfl; have hcz9_2 : w8.cell? ⟨gb275, 2, none⟩ = some (.int .u64 a1_2) := (bc_ BK275.out 2).trans rfl; have hcz9_3 : w8.cell? ⟨gb275, 3, none⟩ = some (.int .i64 a1_3) := (bc_ BK275.out 3).trans rfl; have hfz9_0 := bf_ BK275.out 0; have hfz9_1 := bf_ BK275.out 1; have hfz9_2 := bf_ BK275.out 2; have hfz9_3 := bf_ BK275.out 3))
   go_ret2
   exact ⟨_, by first | rfl | (simp [errW_none, errW_some] <;> rfl) | (simp [*, errW_none, errW_some] <;> rfl), by (with_reducible repeat (first | apply Kd.V_alloc | apply Kd.V_drewN | apply Kd.V_drew)); exact Kd.V_mono HO0.out (fun _ hk => hk.1), by repeat (first | (with_reducible first | exact HB.out | apply ba_ | apply bn_ | apply bd_ | refine be_ ?_ GE275.out) | exact HB.out)⟩
  ·rw [if_neg c5] at H
   have c5b0 : (a1_0 == 0) = false := beq_eq_false_iff_ne.mpr c5
   have c5b1 : (a1_0 != 0) = true := bne_iff_ne.mpr c5
   by_cases c10 : ([] : List (S54)).length + l0.length < 2513169434916
   ·rw [if_pos c10] at H
    have LMc10 := am_ c10
    clear c10
    obtain ⟨y277, hy277⟩ : ∃ y_ : List (S54), y_ = (([] : List (S54)) ++ l0) := ⟨_, rfl⟩
    replace H : (if 0 ≤ a1_1 then (if a1_1 < (l0.length : Int) then ((catenaryref09_made.f k ((rd_T54 l0 a1_1).f0) ((rd_T54 l0 a1_1).f1) ((rd_T54 l0 a1_1).f2) ((rd_T54 l0 a1_1).f3) ((rd_T54 l0 a1_1).f4) a1_0 a1_1 a1_2 a1_3).bind fun bt281 => (if a1_1 < (y277.length : Int) then (some ((y277.set (a1_1 : Int).toNat (⟨bt281.1, bt281.2.1, bt281.2.2.1, bt281.2.2.2.1, bt281.2.2.2.2⟩ : S54)), true)) else (none))) else (none)) else (none)) = some (r1, r2) := by first | (rw [hy277]; with_reducible exact H) | (have H2_ := (ob_ _ _).symm.trans H; rw [hy277]; with_reducible exact H2_) | (have H2_ := (ob_ _ _).symm.trans H; with_reducible exact H2_) | with_reducible exact H | (rw [hy277]; exact H) | exact H
    have Ny277 := am_ hy277
    clear hy277
    by_cases c11 : 0 ≤ a1_1
    ·rw [if_pos c11] at H
     have c11b0 : decide (0 ≤ a1_1) = true := decide_eq_true c11
     clear c11
     by_cases c12 : a1_1 < (l0.length : Int)
     ·rw [if_pos c12] at H
      have c12b0 : decide (a1_1 < (l0.length : Int)) = true := decide_eq_true c12
      clear c12
      replace H := Option.bind_eq_some_iff.mp H
      obtain ⟨⟨t281, t282, t283, t286, t287⟩, A130, H⟩ := H
      replace H : (if a1_1 < (y277.length : Int) then (some ((y277.set (a1_1 : Int).toNat (⟨t281, t282, t283, t286, t287⟩ : S54)), true)) else (none)) = some (r1, r2) := H
      have A13 := am_ A130
      clear A130
      by_cases c14 : a1_1 < (y277.length : Int)
      ·rw [if_pos c14] at H
       have c14b0 : decide (a1_1 < (y277.length : Int)) = true := decide_eq_true c14
       clear c14
       obtain ⟨y288, hy288⟩ : ∃ y_ : List (S54), y_ = (y277.set (a1_1 : Int).toNat (⟨t281, t282, t283, t286, t287⟩ : S54)) := ⟨_, rfl⟩
       replace H : (some (y288, true)) = some (r1, r2) := by first | (rw [hy288]; with_reducible exact H) | (have H2_ := (ob_ _ _).symm.trans H; rw [hy288]; with_reducible exact H2_) | (have H2_ := (ob_ _ _).symm.trans H; with_reducible exact H2_) | with_reducible exact H | (rw [hy288]; exact H) | exact H
       have Ny288 := am_ hy288
       clear hy288
       simp only [Option.some.injEq, Prod.mk.injEq] at H
       obtain ⟨rfl, rfl⟩ := H
       go_enter Tryd.func29, Tryd.ntmps29
       try go_wp2_with (first | ((with_reducible refine gate_dst (N := 3) rfl ?_); refine box_event ?hg (N := 3) ?hd (cs := #[.int .i64 a1_0, .int .i64 a1_1, .int .u64 a1_2, .int .i64 a1_3]) (t := 24) ?hr ?_; (case hd => rfl); (case hg => rfl); (case hr => first | (go_simp; done) | (go_simp; rfl)); intro gb275 hg w16 hbox hb; have n0_ := am_ (Kd.V_below (Kd.V_elderB (by (with_reducible repeat (first | apply Kd.V_alloc | apply Kd.V_drewN | apply Kd.V_drew)); exact HO0.out) gb275 (Nat.le_of_eq hg.symm)) hb); have n1_ := am_ (bt_ (by repeat (first | (with_reducible first | exact HB.out | apply ba_ | apply bn_ | apply bd_) | exact HB.out)) hb); have n2_ := am_ (hbox); have n3_ := am_ ((by rw [hg]; exact (bs_ (by repeat (first | (with_reducible first | exact HB.out | apply ba_ | apply bn_ | apply bd_) | exact HB.out))) : w.heap.size ≤ gb275)); have n4_ := am_ ((by rw [hg]; exact (bs_ (by repeat (first | (with_reducible first | exact HB.out | apply ba_ | apply bn_ | apply bd_) | exact HB.out))) : w.heap.size ≤ gb275)); clear HO0; clear HB; have HO0 := n0_; have HB := n1_; have BK275 := n2_; have GW275 := n3_; have GE275 := n4_; clear n0_ n1_ n2_ n3_ n4_; clear hb hbox hg; have hcz17_0 : w16.cell? ⟨gb275, 0, none⟩ = some (.int .i64 a1_0) := (bc_ BK275.out 0).trans rfl; have hcz17_1 : w16.cell? ⟨gb275, 1, none⟩ = some (.int .i64 a1_1) := (bc_ BK275.out 1).trans rfl; have hcz17_2 : w16.cell? ⟨gb275, 2, none⟩ = some (.int .u64 a1_2) := (bc_ BK275.out 2).trans rfl; have hcz17_3 : w16.cell? ⟨gb275, 3, none⟩ = some (.int .i64 a1_3) := (bc_ BK275.out 3).trans rfl; have hfz17_0 := bf_ BK275.out 0; have hfz17_1 := bf_ BK275.out 1; have hfz17_2 := bf_ BK275.out 2; have hfz17_3 := bf_ BK275.out 3) | ((with_reducible refine gate_callee (f := 27) rfl ?_); refine goesL_ (some 9) rfl rfl Tryd.func27 (by kernel_rfl) rfl #[.slice A0 l0.length c0, .agg #[.int .i64 a1_0, .int .i64 a1_1, .int .u64 a1_2, .int .i64 a1_3]] rfl (by (try simp only [List.map_toArray, List.map_cons, List.map_nil]); first | done | rfl | (simp only [List.length_drop, lt_]; rfl)) ?_; (with_reducible refine (catenaryref09_Can.calls k _ _ l0 a1_0 a1_1 a1_2 a1_3 t276 _ ?side1 ?side2 A3.out).mono ?_); (case side1 => repeat (first | exact (Kd.V_reads' HO0.out).2.2 | (with_reducible refine Kd.C_alloc ?_ _) | (with_reducible refine Kd.C_drewN ?_ _) | (with_reducible refine Kd.C_drew ?_))); (case side2 => exact (Kd.V_reads' HO0.out).2.1); rintro e w18 ⟨rfl, hb⟩; refine ⟨_, rfl, ?_⟩; have n0_ := am_ (Kd.V_below (by (with_reducible repeat (first | apply Kd.V_alloc | apply Kd.V_drewN | apply Kd.V_drew)); exact HO0.out) hb); have n1_ := am_ (blk_below (g := gb275) (o := .cells #[.int .i64 a1_0, .int .i64 a1_1, .int .u64 a1_2, .int .i64 a1_3] 24 (0, 0)) (by (with_reducible repeat (first | refine bw_ ?_ _ | refine bx_ ?_ | refine bl_ ?_ _)); exact BK275.out) hb); have n2_ := am_ (bt_ (by repeat (first | (with_reducible first | exact HB.out | apply ba_ | apply bn_ | apply bd_ | refine be_ ?_ GE275.out) | exact HB.out)) hb); clear HO0; clear BK275; clear HB; have HO0 := n0_; have BK275 := n1_; have HB := n2_; clear n0_ n1_ n2_; (try clear hb); (try clear hb2); (try clear hk); (try clear hi); have hcz19_0 : w18.cell? ⟨gb275, 0, none⟩ = some (.int .i64 a1_0) := (bc_ BK275.out 0).trans rfl; have hcz19_1 : w18.cell? ⟨gb275, 1, none⟩ = some (.int .i64 a1_1) := (bc_ BK275.out 1).trans rfl; have hcz19_2 : w18.cell? ⟨gb275, 2, none⟩ = some (.int .u64 a1_2) := (bc_ BK275.out 2).trans rfl; have hcz19_3 : w18.cell? ⟨gb275, 3, none⟩ = some (.int .i64 a1_3) := (bc_ BK275.out 3).trans rfl; have hfz19_0 := bf_ BK275.out 0; have hfz19_1 := bf_ BK275.out 1; have hfz19_2 := bf_ BK275.out 2; have hfz19_3 := bf_ BK275.out 3) | ((with_reducible refine gate_builtin (b := .append) (xs := #[.const (.slice none 0 0), .tmp 16]) rfl ?_); at_builtin; refine Kd.N_append_rows k54 (w0 := w) w.heap.size rfl (.const (.slice none 0 0)) (.tmp 16) 43 54 (.agg #[(.int .i64 0), (.int .u64 0), (.slice none 0 0), (.bool false), (.int .i64 0)]) 56 rfl Tryd.underlying43 info54 rfl (by decide) (by omega) (.slice none 0 0) ([] : List (S54)) l0 _ _ _ (fun k_ => (P0_ k_ ∨ w.heap.size ≤ k_) ∧ k_ ≠ gb275) (fun k_ => ((fun k_ => (P0_ k_ ∨ w.heap.size ≤ k_) ∧ k_ ≠ gb275)) k_ ∧ some k_ ≠ (.slice none 0 0 : Value).ownBlock) rfl rfl ?aO ?aR (fun _ hk => hk) ?aF ?aB ?aS ?aL ?_; (case aR => exact (by skip; exact Kd.V_F (Kd.V_mono (ok' := (fun k_ => ((fun k_ => (P0_ k_ ∨ w.heap.size ≤ k_) ∧ k_ ≠ gb275)) k_ ∧ some k_ ≠ (.slice none 0 0 : Value).ownBlock)) (HO0.out) (fun k_ hk => ⟨⟨hk.1, hk.2⟩, (by simp [Value.ownBlock])⟩)))); (case aB => exact (by repeat (first | (with_reducible first | exact HB.out | apply ba_ | apply bn_ | apply bd_ | refine be_ ?_ GE275.out) | exact HB.out))); (case aF => exact (fun k_ hk => ⟨(.inr (Nat.le_trans (bs_ (by repeat (first | (with_reducible first | exact HB.out | apply ba_ | apply bn_ | apply bd_ | refine be_ ?_ GE275.out) | exact HB.out))) hk)), Kd.freshB (g := gb275) (o := .cells #[.int .i64 a1_0, .int .i64 a1_1, .int .u64 a1_2, .int .i64 a1_3] 24 (0, 0)) (by (with_reducible repeat (first | refine bw_ ?_ _ | refine bx_ ?_ | refine bl_ ?_ _)); exact BK275.out) k_ hk⟩)); (case aO => exact ((Kd.N_nil _ _ _ _ (fun k_ => (P0_ k_ ∨ w.heap.size ≤ k_) ∧ k_ ≠ gb275)))); (case aS => exact (bs_ (by repeat (first | (with_reducible first | exact HB.out | apply ba_ | apply bn_ | apply bd_ | refine be_ ?_ GE275.out) | exact HB.out)))); (case aL => have := LMc10.out; omega); intro v278 w20 ho hb hg hat; rw [← Ny277.out] at ho; have n0_ := am_ (Kd.V_afterv (Kd.V_apart_nil (by (with_reducible repeat (first | apply Kd.V_alloc | apply Kd.V_drewN | apply Kd.V_drew)); exact HO0.out)) hg hat); have n1_ := am_ (blk_grown (g := gb275) (o := .cells #[.int .i64 a1_0, .int .i64 a1_1, .int .u64 a1_2, .int .i64 a1_3] 24 (0, 0)) (by (with_reducible repeat (first | refine bw_ ?_ _ | refine bx_ ?_ | refine bl_ ?_ _)); exact BK275.out) hg (by simp [Value.ownBlock])); have n2_ := am_ (hb); have n3_ := am_ (ho); clear HO0; clear BK275; clear HB; have HO0 := n0_; have BK275 := n1_; have HB := n2_; have HO279 := n3_; clear n0_ n1_ n2_ n3_; clear ho hb hg hat))
       have n0_ := am_ (Kd.V_drew HO0.out)
       have n1_ := am_ (Kd.N_drew HO279.out)
       have n2_ := am_ (bx_ BK275.out)
       have n3_ := am_ (bd_ HB.out)
       clear HO0
       clear HO279
       clear BK275
       clear HB
       have HO0 := n0_
       have HO279 := n1_
       have BK275 := n2_
       have HB := n3_
       clear n0_ n1_ n2_ n3_
       have p280 : 0 ≤ (a1_1 : Int) := od_ (by first | (with_reducible assumption) | assumption)
       have q280 : a1_1 < (l0.length : Int) := od_ (by first | (with_reducible assumption) | assumption)
       obtain ⟨ad280, A280_2, c280_2, e280, hx280_0, hx280_1, hx280_2, hx280_3, hx280_4, hl280_2, hi280_2⟩ := at_T54 (Kd.V_reads' HO0.out).2.2 a1_1 p280 q280
       cases e280
       obtain ⟨ce280, hce280, hMe280, hcc280⟩ := Kd.V_get HO0.out z54 a1_1 p280 (by first | exact q280 | exact od_ (by first | (with_reducible assumption) | assumption) | (have e_ := (Kd.V_reads' HO0.out).1; omega))
       obtain ⟨ua280_2, uc280_2, rfl, ul280_2, ge280_2⟩ := k54_openF hMe280
       have hv280_2 := hcc280 2 _ rfl
       rw [add_field _ _ 2 (by omega)] at hv280_2
       replace hv280_2 := Option.some.inj (hv280_2.symm.trans hx280_2)
       injection hv280_2 with hva_ hvn_ hvc_
       rw [hva_] at ge280_2
       rw [hvc_] at ul280_2
       have HL280_2 := am_ (show Kd.V (Kd.int .i64) 3 _ w.heap.size _ _ ((rd_T54 l0 a1_1).f2) from Kd.V_mk ul280_2 ge280_2)
       clear hva_ hvn_ hvc_ ge280_2 ul280_2
       clear hcc280 hce280
       have HR280_2 := am_ hi280_2
       have HC280_2 := am_ hl280_2
       clear hi280_2 hl280_2
       replace p280 := eq_true p280
       replace q280 := eq_true q280
       refine start_ (n := 12) (S := fun w' => w'.cell? ⟨gb275, 0, none⟩ = some (.int .i64 a1_0) ∧ w'.cell? ⟨gb275, 1, none⟩ = some (.int .i64 a1_1) ∧ w'.cell? ⟨gb275, 2, none⟩ = some (.int .u64 a1_2) ∧ w'.cell? ⟨gb275, 3, none⟩ = some (.int .i64 a1_3) ∧ w'.cell? (ad280.add ((a1_1).toNat * 5)) = some (.int .i64 ((rd_T54 l0 a1_1).f0)) ∧ w'.cell? ⟨(ad280.add ((a1_1).toNat * 5)).block, (ad280.add ((a1_1).toNat * 5)).off + 1, none⟩ = some (.int .u64 ((rd_T54 l0 a1_1).f1)) ∧ w'.cell? ⟨(ad280.add ((a1_1).toNat * 5)).block, (ad280.add ((a1_1).toNat * 5)).off + 2, none⟩ = some (.slice A280_2 ((rd_T54 l0 a1_1).f2).length c280_2) ∧ w'.cell? ⟨(ad280.add ((a1_1).toNat * 5)).block, (ad280.add ((a1_1).toNat * 5)).off + 3, none⟩ = some (.bool ((rd_T54 l0 a1_1).f3)) ∧ w'.cell? ⟨(ad280.add ((a1_1).toNat * 5)).block, (ad280.add ((a1_1).toNat * 5)).off + 4, none⟩ = some (.int .i64 ((rd_T54 l0 a1_1).f4))) (ds := [11]) #[false, false, false, false, false, false, false, false, false, false, false, false] (by kernel_rfl) rfl rfl ⟨(bc_ BK275.out 0).trans rfl, (bc_ BK275.out 1).trans rfl, (bc_ BK275.out 2).trans rfl, (bc_ BK275.out 3).trans rfl, hx280_0, hx280_1, hx280_2, hx280_3, hx280_4⟩ (fun hHeld => ?_); refine with_tabW catenaryref09_Do.tab6 catenaryref09_Do.bits6 (fun HT_ HW_ => ?_)
       generalize w20.drew = w21 at HO0 HO279 BK275 HB HL280_2 HR280_2 hx280_0 hx280_1 hx280_2 hx280_3 hx280_4 hHeld ⊢
       refine pure_ (i := 0) (N := some 18) (v := ?_) (a' := ?_) #[true, false, false, false, false, false, false, false, false, false, false, false] rfl rfl (any_of HT_.out (by kernel_rfl)) (fun _ _ _ h => h) (Or.inl ⟨by rfl, ?_⟩) ?_ ?_
       rotate_left
       ·intro w'
        go_simp
        with_reducible rfl
       rotate_left
       ·simp only [Act.put, sa_, sz_, ss_, i64_w, i32_w]
        rfl
       refine pure_ (i := 1) (N := some 19) (v := ?_) (a' := ?_) #[true, true, false, false, false, false, false, false, false, false, false, false] rfl rfl (any_of HT_.out (by kernel_rfl)) (fun _ _ _ h => h) (Or.inl ⟨by rfl, ?_⟩) ?_ ?_
       rotate_left
       ·intro w'
        go_simp
        with_reducible rfl
       rotate_left
       ·simp only [Act.put, sa_, sz_, ss_, i64_w, i32_w]
        rfl
       refine pure_ (i := 3) (N := some 21) (v := ?_) (a' := ?_) #[true, true, false, true, false, false, false, false, false, false, false, false] rfl rfl (any_of HT_.out (by kernel_rfl)) (fun _ _ _ h => h) (Or.inl ⟨by rfl, ?_⟩) ?_ ?_
       rotate_left
       ·intro w'
        go_simp
        with_reducible rfl
       rotate_left
       ·simp only [Act.put, sa_, sz_, ss_, i64_w, i32_w]
        rfl
       refine pure_ (i := 4) (N := some 22) (v := ?_) (a' := ?_) #[true, true, false, true, true, false, false, false, false, false, false, false] rfl rfl (any_of HT_.out (by kernel_rfl)) (fun _ _ _ h => h) (Or.inl ⟨by rfl, ?_⟩) ?_ ?_
       rotate_left
       ·intro w'
        go_simp
        with_reducible rfl
       rotate_left
       ·simp only [Act.put, sa_, sz_, ss_, i64_w, i32_w]
        rfl
       refine take_ (i := 2) (N := some 20) (v := ?_) (a' := ?_) #[true, true, true, true, true, false, false, false, false, false, false, false] rfl rfl (take_ofW HT_.out HW_.out (by kernel_rfl)) (fun _ _ _ h => h) (Or.inl ⟨by rfl, ?_⟩) hHeld ?_ ?_
       rotate_left
       ·rintro w' ⟨s0, s1, s2, s3, s4, s5, s6, s7, s8⟩
        go_simp
        with_reducible rfl
       rotate_left
       ·simp only [Act.put, sa_, sz_, ss_, i64_w, i32_w]
        rfl
       refine take_ (i := 5) (N := some 23) (v := ?_) (a' := ?_) #[true, true, true, true, true, true, false, false, false, false, false, false] rfl rfl (take_ofW HT_.out HW_.out (by kernel_rfl)) (fun _ _ _ h => h) (Or.inl ⟨by rfl, ?_⟩) hHeld ?_ ?_
       rotate_left
       ·rintro w' ⟨s0, s1, s2, s3, s4, s5, s6, s7, s8⟩
        go_simp
        with_reducible rfl
       rotate_left
       ·simp only [Act.put, sa_, sz_, ss_, i64_w, i32_w]
        rfl
       refine pure_ (i := 6) (N := some 24) (v := ?_) (a' := ?_) #[true, true, true, true, true, true, true, false, false, false, false, false] rfl rfl (any_of HT_.out (by kernel_rfl)) (fun _ _ _ h => h) (Or.inl ⟨by rfl, ?_⟩) ?_ ?_
       rotate_left
       ·intro w'
        go_simp
        with_reducible rfl
       rotate_left
       ·simp only [Act.put, sa_, sz_, ss_, i64_w, i32_w]
        rfl
       refine take_ (i := 7) (N := some 25) (v := ?_) (a' := ?_) #[true, true, true, true, true, true, true, true, false, false, false, false] rfl rfl (take_ofW HT_.out HW_.out (by kernel_rfl)) (fun _ _ _ h => h) (Or.inl ⟨by rfl, ?_⟩) hHeld ?_ ?_
       rotate_left
       ·rintro w' ⟨s0, s1, s2, s3, s4, s5, s6, s7, s8⟩
        go_simp
        with_reducible rfl
       rotate_left
       ·simp only [Act.put, sa_, sz_, ss_, i64_w, i32_w]
        rfl
       refine take_ (i := 8) (N := some 26) (v := ?_) (a' := ?_) #[true, true, true, true, true, true, true, true, true, false, false, false] rfl rfl (take_ofW HT_.out HW_.out (by kernel_rfl)) (fun _ _ _ h => h) (Or.inl ⟨by rfl, ?_⟩) hHeld ?_ ?_
       rotate_left
       ·rintro w' ⟨s0, s1, s2, s3, s4, s5, s6, s7, s8⟩
        go_simp
        with_reducible rfl
       rotate_left
       ·simp only [Act.put, sa_, sz_, ss_, i64_w, i32_w]
        rfl
       refine one_ (i := 9) (N := some 27) #[true, true, true, true, true, true, true, true, true, true, false, false] rfl rfl (one_of HT_.out (by kernel_rfl)) (by decide) (fun K hK => ?_)
       refine goes_ Tryd.func65 (by kernel_rfl) rfl #[.agg #[.int .i64 ((rd_T54 l0 a1_1).f0), .int .u64 ((rd_T54 l0 a1_1).f1), .slice A280_2 ((rd_T54 l0 a1_1).f2).length c280_2, .bool ((rd_T54 l0 a1_1).f3), .int .i64 ((rd_T54 l0 a1_1).f4)], .agg #[.int .i64 a1_0, .int .i64 a1_1, .int .u64 a1_2, .int .i64 a1_3]] (by rfl) rfl rfl (by (try simp only [List.map_toArray, List.map_cons, List.map_nil]); first | done | rfl | (simp only [List.length_drop, lt_]; rfl)) ?_
       with_reducible refine (catenaryref09_made.calls k ((rd_T54 l0 a1_1).f0) ((rd_T54 l0 a1_1).f1) _ _ ((rd_T54 l0 a1_1).f2) ((rd_T54 l0 a1_1).f3) ((rd_T54 l0 a1_1).f4) a1_0 a1_1 a1_2 a1_3 t281 t282 t283 t286 t287 _ ?side1 ?side2 A13.out).mono ?_
       (case side1 => repeat (first | exact (by repeat (first | (with_reducible exact HR280_2.out) | (with_reducible refine Kd.C_alloc ?_ _) | (with_reducible refine Kd.C_drewN ?_ _) | (with_reducible refine Kd.C_drew ?_) | exact HR280_2.out)) | (with_reducible refine Kd.C_alloc ?_ _) | (with_reducible refine Kd.C_drewN ?_ _) | (with_reducible refine Kd.C_drew ?_)))
       (case side2 => exact HC280_2.out)
       rintro e w22 ⟨v284, rfl, ho0, hb⟩
       have HS4_ := (hb.cell (cl_ _ _ (hHeld.2.2.2.2.1))).trans (hHeld.2.2.2.2.1)
       have HS5_ := (hb.cell (cl_ _ _ (hHeld.2.2.2.2.2.1))).trans (hHeld.2.2.2.2.2.1)
       have HS6_ := (hb.cell (cl_ _ _ (hHeld.2.2.2.2.2.2.1))).trans (hHeld.2.2.2.2.2.2.1)
       have HS7_ := (hb.cell (cl_ _ _ (hHeld.2.2.2.2.2.2.2.1))).trans (hHeld.2.2.2.2.2.2.2.1)
       have HS8_ := (hb.cell (cl_ _ _ (hHeld.2.2.2.2.2.2.2.2))).trans (hHeld.2.2.2.2.2.2.2.2)
       refine ⟨_, rfl, ?_⟩
       have n0_ := am_ (Kd.V_elder' (by (with_reducible repeat (first | apply Kd.V_alloc | apply Kd.V_drewN | apply Kd.V_drew)); exact HO0.out) (Kd.R_base ho0) hb)
       have n1_ := am_ (Kd.N_elder' (by (with_reducible repeat (first | apply Kd.N_alloc | apply Kd.N_drewN | apply Kd.N_drew)); exact HO279.out) (Kd.R_base ho0) hb)
       have n2_ := am_ (Kd.V_elder' (by (with_reducible repeat (first | apply Kd.V_alloc | apply Kd.V_drewN | apply Kd.V_drew)); exact HL280_2.out) (Kd.R_base ho0) hb)
       have n3_ := am_ (Kd.R_lower (Kd.R_newM (M := fun k_ => (w.heap.size ≤ k_)) ho0 (bs_ (by repeat (first | (with_reducible first | exact HB.out | apply ba_ | apply bn_ | apply bd_ | refine be_ ?_ GE275.out) | exact HB.out))) (fun k_ h_ => h_)) (bs_ (by repeat (first | (with_reducible first | exact HB.out | apply ba_ | apply bn_ | apply bd_ | refine be_ ?_ GE275.out) | exact HB.out))))
       have n4_ := am_ (blk_below (g := gb275) (o := .cells #[.int .i64 a1_0, .int .i64 a1_1, .int .u64 a1_2, .int .i64 a1_3] 24 (0, 0)) (by (with_reducible repeat (first | refine bw_ ?_ _ | refine bx_ ?_ | refine bl_ ?_ _)); exact BK275.out) hb)
       have n5_ := am_ (Kd.C_below (by repeat (first | (with_reducible exact HR280_2.out) | (with_reducible refine Kd.C_alloc ?_ _) | (with_reducible refine Kd.C_drewN ?_ _) | (with_reducible refine Kd.C_drew ?_) | exact HR280_2.out)) hb)
       have n6_ := am_ (bt_ (by repeat (first | (with_reducible first | exact HB.out | apply ba_ | apply bn_ | apply bd_ | refine be_ ?_ GE275.out) | exact HB.out)) hb)
       clear HO0
       clear HO279
       clear HL280_2
       clear BK275
       clear HR280_2
       clear HB
       have HO0 := n0_
       have HO279 := n1_
       have HL280_2 := n2_
       have HO285 := n3_
       have BK275 := n4_
       have HR280_2 := n5_
       have HB := n6_
       clear n0_ n1_ n2_ n3_ n4_ n5_ n6_
       (try clear hb)
       (try clear hb2)
       (try clear hk)
       (try clear hi)
       (try clear ho0)
       have p15 : 0 ≤ (a1_1 : Int) := od_ (by first | (with_reducible assumption) | assumption)
       have q15 : (a1_1 : Int) < ((y277.length : Int) : Int) := od_ (by first | (with_reducible assumption) | assumption)
       obtain ⟨go15, co15, eo15, gb15, gl15, cl15, HG15⟩ := Kd.N_form HO279.out (by omega)
       (first | cases eo15 | (injection eo15 with ea_ en_ ec_; (first | subst ea_ | (injection ea_ with ea_; subst ea_)); subst ec_; clear en_))
       have GB15 := am_ gb15
       have GG15 := am_ HG15
       clear gb15 gl15 HG15
       obtain ⟨ce15, hcl15, hM15, hcc15, hfr15⟩ := Kd.N_elem HO279.out z54 (a1_1 : Int) p15 q15
       obtain ⟨ua15_2, uc15_2, rfl, ul15_2, ge15_2⟩ := k54_openF hM15
       have hx15_0 : World.cell? _ ⟨go15, (a1_1 : Int).toNat * 5, none⟩ = some (.int .i64 ((rd_T54 y277 a1_1).f0)) := hcc15 0 _ rfl
       have hx15_1 : World.cell? _ ⟨go15, (a1_1 : Int).toNat * 5 + 1, none⟩ = some (.int .u64 ((rd_T54 y277 a1_1).f1)) := hcc15 1 _ rfl
       have hx15_2 : World.cell? _ ⟨go15, (a1_1 : Int).toNat * 5 + 2, none⟩ = some (.slice ua15_2 ((rd_T54 y277 a1_1).f2).length uc15_2) := hcc15 2 _ rfl
       have hx15_3 : World.cell? _ ⟨go15, (a1_1 : Int).toNat * 5 + 3, none⟩ = some (.bool ((rd_T54 y277 a1_1).f3)) := hcc15 3 _ rfl
       have hx15_4 : World.cell? _ ⟨go15, (a1_1 : Int).toNat * 5 + 4, none⟩ = some (.int .i64 ((rd_T54 y277 a1_1).f4)) := hcc15 4 _ rfl
       have hf15_0 : World.frozen? _ ⟨go15, (a1_1 : Int).toNat * 5, none⟩ = false := hfr15 0
       have hf15_1 : World.frozen? _ ⟨go15, (a1_1 : Int).toNat * 5 + 1, none⟩ = false := hfr15 1
       have hf15_2 : World.frozen? _ ⟨go15, (a1_1 : Int).toNat * 5 + 2, none⟩ = false := hfr15 2
       have hf15_3 : World.frozen? _ ⟨go15, (a1_1 : Int).toNat * 5 + 3, none⟩ = false := hfr15 3
       have hf15_4 : World.frozen? _ ⟨go15, (a1_1 : Int).toNat * 5 + 4, none⟩ = false := hfr15 4
       clear hcl15 hcc15 hfr15 hM15
       replace p15 := eq_true p15
       replace q15 := eq_true q15
       obtain ⟨Av284, cv284, ev284⟩ := Kd.R_slice HO285.out
       subst ev284
       have HX23 := am_ (show Kd.N k54 54 _ w.heap.size (fun k_ => (P0_ k_ ∨ w.heap.size ≤ k_) ∧ some k_ ≠ ((Value.slice Av284 t283.length cv284) : Value).ownBlock ∧ k_ ≠ gb275) (.slice (some ⟨go15, 0, none⟩) y277.length co15) y277 from (Kd.N_mono (HO279.out) (fun k_ hk => ⟨hk.1.1, ⟨hk.2, hk.1.2⟩⟩)))
       replace HX23 := am_ (show Kd.N k54 54 _ w.heap.size (fun k_ => (P0_ k_ ∨ w.heap.size ≤ k_) ∧ k_ ≠ gb275) (.slice (some ⟨go15, 0, none⟩) y277.length co15) y277 from Kd.N_mono HX23.out (fun k_ hk => ⟨hk.1, hk.2.2⟩))
       obtain ⟨ce23, hcl23, hM23, hcc23, hfr23⟩ := Kd.N_elem HX23.out z54 (a1_1 : Int) (od_ (by first | (with_reducible assumption) | assumption)) (by have h_ : (a1_1 : Int) < ((y277.length : Int) : Int) := od_ (by first | (with_reducible assumption) | assumption); first | exact h_ | (have e_ := (Kd.N_reads' HO279.out).1; omega) | simpa using h_)
       obtain ⟨ua23_2, uc23_2, rfl, ul23_2, ge23_2⟩ := k54_openF hM23
       have HP23 := (Kd.N_seg HX23.out (a1_1 : Int) (od_ (by first | (with_reducible assumption) | assumption)) (by have h_ : (a1_1 : Int) < ((y277.length : Int) : Int) := od_ (by first | (with_reducible assumption) | assumption); first | exact h_ | (have e_ := (Kd.N_reads' HO279.out).1; omega) | simpa using h_) (seg := [.int .i64 t281, .int .u64 t282, (Value.slice Av284 t283.length cv284), .bool t286, .int .i64 t287]) (j := 0) hcl23 hcc23 (show 5 ≤ 5 from by decide) (x' := (⟨t281, t282, t283, t286, t287⟩ : S54)) (k54_mkF _ _ (⟨t281, t282, t283, t286, t287⟩ : S54) (Kd.R_reads' (Kd.R_mono (ok' := (fun k_ => ((fun k_ => (P0_ k_ ∨ w.heap.size ≤ k_) ∧ k_ ≠ gb275)) k_ ∧ k_ ≠ go15)) (Kd.R_types (Kd.R_apart' (HO285.out) (Kd.N_typed HO279.out) (by decide)) BK275.out (by decide)) (fun k_ hk => ⟨⟨(.inr (hk.1.1.1)), hk.2⟩, fun e_ => (hk.1.2) (by rw [e_]; rfl)⟩))).2.1 (Kd.R_F (Kd.R_mono (ok' := (fun k_ => ((fun k_ => (P0_ k_ ∨ w.heap.size ≤ k_) ∧ k_ ≠ gb275)) k_ ∧ k_ ≠ go15)) (Kd.R_types (Kd.R_apart' (HO285.out) (Kd.N_typed HO279.out) (by decide)) BK275.out (by decide)) (fun k_ hk => ⟨⟨(.inr (hk.1.1.1)), hk.2⟩, fun e_ => (hk.1.2) (by rw [e_]; rfl)⟩)))) (fun _ hk => hk)).1
       rw [← Ny288.out] at HP23
       have HQ23 := am_ HP23
       clear hcl23 hcc23 hfr23 hM23 HP23
       refine hK.out _ _ ⟨(bc_ BK275.out 0).trans rfl, (bc_ BK275.out 1).trans rfl, (bc_ BK275.out 2).trans rfl, (bc_ BK275.out 3).trans rfl, HS4_, HS5_, HS6_, HS7_, HS8_⟩ (fun hHeld => ?_)
       clear hK K
       refine norm_ (a' := ?_) ?_ ?_
       rotate_left
       ·show Act.put _ (some 27) _ = _
        simp only [Act.put, sa_, sz_, ss_, i64_w, i32_w]
        rfl
       refine pure_ (i := 10) (N := some 28) (v := ?_) (a' := ?_) #[true, true, true, true, true, true, true, true, true, true, true, false] rfl rfl (any_of HT_.out (by kernel_rfl)) (fun _ _ _ h => h) (Or.inl ⟨by rfl, ?_⟩) ?_ ?_
       rotate_left
       ·intro w'
        go_simp
        with_reducible rfl
       rotate_left
       ·simp only [Act.put, sa_, sz_, ss_, i64_w, i32_w]
        rfl
       refine last_ (i := 11) (N := none) #[true, true, true, true, true, true, true, true, true, true, true, true] rfl rfl (one_of HT_.out (by kernel_rfl)) (by decide) (fun K hK => ?_)
       refine skip_ (w1 := ?_) (by rfl) rfl ?_ ?_
       rotate_left
       ·go_simp
        rfl
       refine hK.out _ _ ?_
       clear hK K
       refine done_ (done_of HT_.out (by kernel_rfl)) ?_
       try go_wp2
       go_ret2
       exact ⟨_, by first | rfl | (simp [errW_none, errW_some] <;> rfl) | (simp [*, errW_none, errW_some] <;> rfl), Kd.N_V (by (with_reducible repeat (first | apply Kd.N_alloc | apply Kd.N_drewN | apply Kd.N_drew)); exact Kd.N_mono HQ23.out (fun _ hk => hk.1)), by repeat (first | (with_reducible first | exact HB.out | apply ba_ | apply bn_ | apply bd_ | refine be_ ?_ GB15.out | refine be_ ?_ GB15.out | refine be_ ?_ GB15.out | refine be_ ?_ GB15.out | refine be_ ?_ GB15.out | refine be_ ?_ GE275.out) | exact HB.out)⟩
      ·rw [if_neg c14] at H
       exact absurd H (by simp)
     ·rw [if_neg c12] at H
      exact absurd H (by simp)
    ·rw [if_neg c11] at H
     exact absurd H (by simp)
   ·rw [if_neg c10] at H
    exact absurd H (by simp)
 ·rw [if_neg c4] at H
  have c4b0 : (t276 == 0) = false := beq_eq_false_iff_ne.mpr c4
  have c4b1 : (t276 != 0) = true := bne_iff_ne.mpr c4
  simp only [Option.some.injEq, Prod.mk.injEq] at H
  obtain ⟨rfl, rfl⟩ := H
  go_enter Tryd.func29, Tryd.ntmps29
  go_wp2_with (first | ((with_reducible refine gate_dst (N := 3) rfl ?_); refine box_event ?hg (N := 3) ?hd (cs := #[.int .i64 a1_0, .int .i64 a1_1, .int .u64 a1_2, .int .i64 a1_3]) (t := 24) ?hr ?_; (case hd => rfl); (case hg => rfl); (case hr => first | (go_simp; done) | (go_simp; rfl)); intro gb275 hg w24 hbox hb; have n0_ := am_ (Kd.V_below (Kd.V_elderB (by (with_reducible repeat (first | apply Kd.V_alloc | apply Kd.V_drewN | apply Kd.V_drew)); exact HO0.out) gb275 (Nat.le_of_eq hg.symm)) hb); have n1_ := am_ (bt_ (by repeat (first | (with_reducible first | exact HB.out | apply ba_ | apply bn_ | apply bd_) | exact HB.out)) hb); have n2_ := am_ (hbox); have n3_ := am_ ((by rw [hg]; exact (bs_ (by repeat (first | (with_reducible first | exact HB.out | apply ba_ | apply bn_ | apply bd_) | exact HB.out))) : w.heap.size ≤ gb275)); have n4_ := am_ ((by rw [hg]; exact (bs_ (by repeat (first | (with_reducible first | exact HB.out | apply ba_ | apply bn_ | apply bd_) | exact HB.out))) : w.heap.size ≤ gb275)); clear HO0; clear HB; have HO0 := n0_; have HB := n1_; have BK275 := n2_; have GW275 := n3_; have GE275 := n4_; clear n0_ n1_ n2_ n3_ n4_; clear hb hbox hg; have hcz25_0 : w24.cell? ⟨gb275, 0, none⟩ = some (.int .i64 a1_0) := (bc_ BK275.out 0).trans rfl; have hcz25_1 : w24.cell? ⟨gb275, 1, none⟩ = some (.int .i64 a1_1) := (bc_ BK275.out 1).trans rfl; have hcz25_2 : w24.cell? ⟨gb275, 2, none⟩ = some (.int .u64 a1_2) := (bc_ BK275.out 2).trans rfl; have hcz25_3 : w24.cell? ⟨gb275, 3, none⟩ = some (.int .i64 a1_3) := (bc_ BK275.out 3).trans rfl; have hfz25_0 := bf_ BK275.out 0; have hfz25_1 := bf_ BK275.out 1; have hfz25_2 := bf_ BK275.out 2; have hfz25_3 := bf_ BK275.out 3) | ((with_reducible refine gate_callee (f := 27) rfl ?_); refine goesL_ (some 9) rfl rfl Tryd.func27 (by kernel_rfl) rfl #[.slice A0 l0.length c0, .agg #[.int .i64 a1_0, .int .i64 a1_1, .int .u64 a1_2, .int .i64 a1_3]] rfl (by (try simp only [List.map_toArray, List.map_cons, List.map_nil]); first | done | rfl | (simp only [List.length_drop, lt_]; rfl)) ?_; (with_reducible refine (catenaryref09_Can.calls k _ _ l0 a1_0 a1_1 a1_2 a1_3 t276 _ ?side1 ?side2 A3.out).mono ?_); (case side1 => repeat (first | exact (Kd.V_reads' HO0.out).2.2 | (with_reducible refine Kd.C_alloc ?_ _) | (with_reducible refine Kd.C_drewN ?_ _) | (with_reducible refine Kd.C_drew ?_))); (case side2 => exact (Kd.V_reads' HO0.out).2.1); rintro e w26 ⟨rfl, hb⟩; refine ⟨_, rfl, ?_⟩; have n0_ := am_ (Kd.V_below (by (with_reducible repeat (first | apply Kd.V_alloc | apply Kd.V_drewN | apply Kd.V_drew)); exact HO0.out) hb); have n1_ := am_ (blk_below (g := gb275) (o := .cells #[.int .i64 a1_0, .int .i64 a1_1, .int .u64 a1_2, .int .i64 a1_3] 24 (0, 0)) (by (with_reducible repeat (first | refine bw_ ?_ _ | refine bx_ ?_ | refine bl_ ?_ _)); exact BK275.out) hb); have n2_ := am_ (bt_ (by repeat (first | (with_reducible first | exact HB.out | apply ba_ | apply bn_ | apply bd_ | refine be_ ?_ GE275.out) | exact HB.out)) hb); clear HO0; clear BK275; clear HB; have HO0 := n0_; have BK275 := n1_; have HB := n2_; clear n0_ n1_ n2_; (try clear hb); (try clear hb2); (try clear hk); (try clear hi)))
  go_ret2
  exact ⟨_, by first | rfl | (simp [errW_none, errW_some] <;> rfl) | (simp [*, errW_none, errW_some] <;> rfl), by (with_reducible repeat (first | apply Kd.V_alloc | apply Kd.V_drewN | apply Kd.V_drew)); exact Kd.V_mono HO0.out (fun _ hk => hk.1), by repeat (first | (with_reducible first | exact HB.out | apply ba_ | apply bn_ | apply bd_ | refine be_ ?_ GE275.out) | exact HB.out)⟩
end Go.Proofs.YtlpkandfmbnlnaaDoor.Q
end
section
namespace Go.Proofs.YtlpkandfmbnlnaaDoor.Q
open Go.RowKit Go.Proofs.YtlpkandfmbnlnaaDoor.Q Go.Proofs.YtlpkandfmbnlnaaDoorW.PrintWords Go.Proofs.YtlpkandfmbnlnaaDoorW.PrintLast Go.Proofs.YtlpkandfmbnlnaaDoorW.PrintMore
open Go.Proofs.YtlpkandfmbnlnaaDoor.R
set_option linter.unusedVariables false
set_option linter.unusedSimpArgs false
set_option maxRecDepth 100000
theorem of_1 (w : World) : Calls Tryd.prog 63 #[.int .i64 1] w fun e w' => e = .returned (.agg #[.func (.func 94) #[] #[], .func (.func 95) #[] #[]]) ∧ Below w.heap.size w w' := by
 have hs := fun (W : World) (a : Addr) (f : Fn) (x y : Array Value) (m : Mode) => run_store Tryd.prog W a (.func f x y) m rfl
 go_enter Tryd.func63, Tryd.ntmps63
 go_wp2_with fail
 go_returns
 exact ⟨rfl, by go_grown⟩
theorem of_2 (w : World) : Calls Tryd.prog 63 #[.int .i64 2] w fun e w' => e = .returned (.agg #[.func (.func 96) #[] #[], .func (.func 97) #[] #[]]) ∧ Below w.heap.size w w' := by
 have hs := fun (W : World) (a : Addr) (f : Fn) (x y : Array Value) (m : Mode) => run_store Tryd.prog W a (.func f x y) m rfl
 go_enter Tryd.func63, Tryd.ntmps63
 go_wp2_with fail
 go_returns
 exact ⟨rfl, by go_grown⟩
theorem of_3 (w : World) : Calls Tryd.prog 63 #[.int .i64 3] w fun e w' => e = .returned (.agg #[.func (.func 98) #[] #[], .func (.func 99) #[] #[]]) ∧ Below w.heap.size w w' := by
 have hs := fun (W : World) (a : Addr) (f : Fn) (x y : Array Value) (m : Mode) => run_store Tryd.prog W a (.func f x y) m rfl
 go_enter Tryd.func63, Tryd.ntmps63
 go_wp2_with fail
 go_returns
 exact ⟨rfl, by go_grown⟩
theorem of_4 (w : World) : Calls Tryd.prog 63 #[.int .i64 4] w fun e w' => e = .returned (.agg #[.func (.func 100) #[] #[], .func (.func 101) #[] #[]]) ∧ Below w.heap.size w w' := by
 have hs := fun (W : World) (a : Addr) (f : Fn) (x y : Array Value) (m : Mode) => run_store Tryd.prog W a (.func f x y) m rfl
 go_enter Tryd.func63, Tryd.ntmps63
 go_wp2_with fail
 go_returns
 exact ⟨rfl, by go_grown⟩
def ruleCan (k : Nat) (kind : Int) (l0 : List S54) (x : S54) (n : Int) : Option Int :=
 if kind = 1 then conf_canRemove.f k l0 x.f0 x.f1 x.f2 x.f3 x.f4 n else if kind = 2 then conf_canAppend.f k l0 x.f0 x.f1 x.f2 x.f3 x.f4 n else if kind = 3 then conf_canPromote.f l0 x.f0 x.f1 x.f2 x.f3 x.f4 n else conf_canSettle.f l0 x.f0 x.f1 x.f2 x.f3 x.f4 n
def conf_Can.f (k : Nat) (l0 : List S54) (a1_0 : Int) (a1_1 : Int) (a1_2 : Int) (a1_3 : Int) : Option Int :=
 (conf_All.f k l0).bind fun b => if b = false then some 1 else
  (cmds_Check.f a1_0 a1_1 a1_2 a1_3).bind fun x => if x ≠ 0 then some x else if a1_0 = 0 then some x else
   if a1_1 ≥ (l0.length : Int) then some 7 else if 0 ≤ a1_1 then
    if (rd_T54 l0 a1_1).f1 ≠ a1_2 then some 10 else
     (ruleCan k a1_0 l0 (rd_T54 l0 a1_1) a1_3).bind fun e => if e ≠ 0 then some e else if (rd_T54 l0 a1_1).f1 = 18446744073709551615 then some 9 else some 0
   else none
theorem rule_can (k : Nat) (kind : Int) (hk : 1 ≤ kind ∧ kind ≤ 4) (A0 : Option Addr) (c0 : Nat) (l0 : List S54) (y : S54) (A2 : Option Addr) (c2 : Nat) (n e4 : Int) (w : World) (hr : Kd.C k54 w A0 l0.length l0) (hc0 : l0.length ≤ c0) (hg : Kd.C (Kd.int .i64) w A2 y.f2.length y.f2) (hl : y.f2.length ≤ c2) (he : ruleCan k kind l0 y n = some e4) :
  ∃ F G : Nat, (∀ args w, (callFunc F args).run Tryd.prog w = .ok (.enter F args) w) ∧ (∀ W, Calls Tryd.prog 63 #[.int .i64 kind] W fun e w' => e = .returned (.agg #[.func (.func F) #[] #[], .func (.func G) #[] #[]]) ∧ Below W.heap.size W w') ∧
   ∀ W, Below w.heap.size w W → Calls Tryd.prog F #[.slice A0 l0.length c0, .agg #[.int .i64 y.f0, .int .u64 y.f1, .slice A2 y.f2.length c2, .bool y.f3, .int .i64 y.f4], .int .i64 n] W fun e w' => e = .returned (.int .i64 e4) ∧ Below W.heap.size W w' := by
 obtain ⟨h1, h4⟩ := hk
 obtain rfl | rfl | rfl | rfl : kind = 1 ∨ kind = 2 ∨ kind = 3 ∨ kind = 4 := by omega
 ·exact ⟨94, 95, enters_of Tryd.func94 (by kernel_rfl) rfl, of_1, fun W hb => conf_canRemove.calls k _ c0 l0 y.f0 y.f1 A2 c2 y.f2 y.f3 y.f4 n e4 W (Kd.C_below hr hb) hc0 (Kd.C_below hg hb) hl he⟩
 ·exact ⟨96, 97, enters_of Tryd.func96 (by kernel_rfl) rfl, of_2, fun W hb => conf_canAppend.calls k _ c0 l0 y.f0 y.f1 A2 c2 y.f2 y.f3 y.f4 n e4 W (Kd.C_below hr hb) hc0 (Kd.C_below hg hb) hl he⟩
 ·exact ⟨98, 99, enters_of Tryd.func98 (by kernel_rfl) rfl, of_3, fun W hb => conf_canPromote.calls _ c0 l0 y.f0 y.f1 A2 c2 y.f2 y.f3 y.f4 n e4 W (Kd.C_below hr hb) hc0 (Kd.C_below hg hb) hl he⟩
 ·exact ⟨100, 101, enters_of Tryd.func100 (by kernel_rfl) rfl, of_4, fun W hb => conf_canSettle.calls _ c0 l0 y.f0 y.f1 A2 c2 y.f2 y.f3 y.f4 n e4 W (Kd.C_below hr hb) hc0 (Kd.C_below hg hb) hl he⟩
set_option maxHeartbeats 40000000 in
theorem conf_Can.calls (k : Nat) (A0 : Option Addr) (c0 : Nat) (l0 : List (S54)) (a1_0 : Int) (a1_1 : Int) (a1_2 : Int) (a1_3 : Int) (r : Int) (w : World) (hr0 : Kd.C k54 w A0 l0.length l0) (hc0 : l0.length ≤ c0) (h : conf_Can.f k l0 a1_0 a1_1 a1_2 a1_3 = some r) :
  Calls Tryd.prog 26 #[.slice A0 l0.length c0, .agg #[.int .i64 a1_0, .int .i64 a1_1, .int .u64 a1_2, .int .i64 a1_3]] w fun e w' => e = .returned (.int .i64 r) ∧ Below w.heap.size w w' := by
 unfold conf_Can.f at h
 obtain ⟨b, hb, h1⟩ := Option.bind_eq_some_iff.1 h
 have hlen := hr0.2.1
 have hfd : ∀ (W : World) (f g : Fn), (Instr.field 92 (.agg #[.func f #[] #[], .func g #[] #[]]) 0).run Tryd.prog W = .ok (.func f #[] #[]) W := fun _ _ _ => rfl
 have hb0 : Below w.heap.size w (w.alloc (.cells #[.int .i64 a1_0, .int .i64 a1_1, .int .u64 a1_2, .int .i64 a1_3] 24)) := by go_grown
 have HB0 := Lib.hid hb0
 have HAll := Lib.hid (conf_All.calls k A0 c0 l0 b (w.alloc (.cells #[.int .i64 a1_0, .int .i64 a1_1, .int .u64 a1_2, .int .i64 a1_3] 24)) (Kd.C_below hr0 hb0) hc0 hb)
 have u0 : (w.alloc (.cells #[.int .i64 a1_0, .int .i64 a1_1, .int .u64 a1_2, .int .i64 a1_3] 24)).cell? ⟨w.heap.size, 0, none⟩ = some (.int .i64 a1_0) := by go_simp
 have u1 : (w.alloc (.cells #[.int .i64 a1_0, .int .i64 a1_1, .int .u64 a1_2, .int .i64 a1_3] 24)).cell? ⟨w.heap.size, 1, none⟩ = some (.int .i64 a1_1) := by go_simp
 have u2 : (w.alloc (.cells #[.int .i64 a1_0, .int .i64 a1_1, .int .u64 a1_2, .int .i64 a1_3] 24)).cell? ⟨w.heap.size, 2, none⟩ = some (.int .u64 a1_2) := by go_simp
 have u3 : (w.alloc (.cells #[.int .i64 a1_0, .int .i64 a1_1, .int .u64 a1_2, .int .i64 a1_3] 24)).cell? ⟨w.heap.size, 3, none⟩ = some (.int .i64 a1_3) := by go_simp
 have HU : Hid (∀ W, Below (w.heap.size + 1) (w.alloc (.cells #[.int .i64 a1_0, .int .i64 a1_1, .int .u64 a1_2, .int .i64 a1_3] 24)) W → W.cell? ⟨w.heap.size, 0, none⟩ = some (.int .i64 a1_0) ∧ W.cell? ⟨w.heap.size, 1, none⟩ = some (.int .i64 a1_1) ∧ W.cell? ⟨w.heap.size, 2, none⟩ = some (.int .u64 a1_2) ∧ W.cell? ⟨w.heap.size, 3, none⟩ = some (.int .i64 a1_3)) := Lib.hid (fun W hW => ⟨(hW.cell (p := ⟨w.heap.size, 0, none⟩) (by simp)).trans u0, (hW.cell (p := ⟨w.heap.size, 1, none⟩) (by simp)).trans u1, (hW.cell (p := ⟨w.heap.size, 2, none⟩) (by simp)).trans u2, (hW.cell (p := ⟨w.heap.size, 3, none⟩) (by simp)).trans u3⟩)
 have HR := Lib.hid hr0
 have HC0 := Lib.hid hc0
 have H1 := Lib.hid h1
 clear h h1 hb hb0 hr0 hc0 u0 u1 u2 u3
 go_enter Tryd.func26, Tryd.ntmps26
 go_wp2_with fail
 refine HAll.out.mono ?_
 rintro e w1 ⟨rfl, g1⟩
 have HB1 := Lib.hid (HB0.out.trans (g1.mono HB0.out.size))
 have HX1 : Hid (Below (w.heap.size + 1) (w.alloc (.cells #[.int .i64 a1_0, .int .i64 a1_1, .int .u64 a1_2, .int .i64 a1_3] 24)) w1) := Lib.hid (by have := g1; simpa using this)
 obtain ⟨d0, d1, d2, d3⟩ := HU.out w1 HX1.out
 clear g1 HAll
 cases b with
 | false =>
  have h7 : (1 : Int) = r := Option.some.inj (by simpa using H1.out)
  subst h7
  go_wp2_with fail
  go_ret
  exact ⟨rfl, HB1.out⟩
 | true =>
  have h2 := H1.out
  simp only [Bool.true_eq_false, if_false] at h2
  obtain ⟨x, hx, h3⟩ := Option.bind_eq_some_iff.1 h2
  have HCk := Lib.hid (cmds_Check.calls a1_0 a1_1 a1_2 a1_3 x w1 hx)
  have hxc : Cmd.chk ⟨a1_0, a1_1, a1_2, a1_3⟩ = x := Option.some.inj hx
  have HX := Lib.hid hxc
  have H3 := Lib.hid h3
  clear h2 hx h3 H1 hxc
  go_wp2_with fail
  refine HCk.out.mono ?_
  rintro e w2 ⟨rfl, g1⟩
  have HB2 := Lib.hid (HB1.out.trans (g1.mono HB1.out.size))
  have HX2 := Lib.hid (HX1.out.trans (g1.mono (by have := HX1.out.size; simpa using this)))
  obtain ⟨d0, d1, d2, d3⟩ := HU.out w2 HX2.out
  clear g1 HCk
  by_cases hx0 : x = 0
  ·by_cases hk0 : a1_0 = 0
   ·have h7 : x = r := Option.some.inj (by simpa [hx0, hk0] using H3.out)
    subst h7
    subst hx0
    subst hk0
    go_wp2_with fail
    go_ret
    exact ⟨rfl, HB2.out⟩
   ·have hkk : (1 ≤ a1_0 ∧ a1_0 ≤ 4) ∧ 0 ≤ a1_1 := by
     have h := HX.out
     rw [hx0] at h
     unfold Cmd.chk at h
     simp only at h
     split at h
     ·cases h
     ·split at h
      ·rename_i e1 e2
       first | exact absurd e2 hk0 | cases h
      ·first | omega | (split at h <;> first | omega | cases h)
    obtain ⟨hkind, hch⟩ := hkk
    have h4 := H3.out
    simp only [hx0, ne_eq, not_true_eq_false, if_false, if_neg hk0] at h4
    subst hx0
    have b0 : (a1_0 == 0) = false := by simp [hk0]
    clear H3
    by_cases hc : a1_1 ≥ (l0.length : Int)
    ·have h7 : (7 : Int) = r := Option.some.inj (by simpa only [if_pos hc] using h4)
     subst h7
     have b1 : decide (a1_1 ≥ (l0.length : Int)) = true := by simp; omega
     clear h4
     go_wp2_with fail
     go_ret
     exact ⟨rfl, HB2.out⟩
    ·have b1 : decide (a1_1 ≥ (l0.length : Int)) = false := by simp; omega
     rw [if_neg hc, if_pos hch] at h4
     have hlt : a1_1 < (l0.length : Int) := by omega
     obtain ⟨ad, A2, c2, rfl, x0, x1, x2, x3, x4, l2, g2⟩ := at_T54 HR.out a1_1 hch hlt
     have H4 := Lib.hid h4
     have HG2 := Lib.hid g2
     have HL2 := Lib.hid l2
     generalize rd_T54 l0 a1_1 = y at *
     have p0 := (HB2.out.cell (World.block_lt_of_cell? w _ x0)).trans x0
     have p1 := (HB2.out.cell (World.block_lt_of_cell? w _ x1)).trans x1
     have p2 := (HB2.out.cell (World.block_lt_of_cell? w _ x2)).trans x2
     have p3 := (HB2.out.cell (World.block_lt_of_cell? w _ x3)).trans x3
     have p4 := (HB2.out.cell (World.block_lt_of_cell? w _ x4)).trans x4
     have HB3 := Lib.hid (HB2.out.alloc HB2.out.size (.cells #[.int .i64 y.f0, .int .u64 y.f1, .slice A2 y.f2.length c2, .bool y.f3, .int .i64 y.f4] 54))
     have HX3 := Lib.hid (HX2.out.alloc (by have := HX2.out.size; simpa using this) (.cells #[.int .i64 y.f0, .int .u64 y.f1, .slice A2 y.f2.length c2, .bool y.f3, .int .i64 y.f4] 54))
     obtain ⟨e0, e1, e2, e3⟩ := HU.out _ HX3.out
     clear x0 x1 x2 x3 x4 l2 g2 h4
     by_cases hep : y.f1 = a1_2
     ·subst hep
      have b2 : (y.f1 != y.f1) = false := by simp
      have HS : Hid (∀ W, Below (w2.alloc (.cells #[.int .i64 y.f0, .int .u64 y.f1, .slice A2 y.f2.length c2, .bool y.f3, .int .i64 y.f4] 54)).heap.size (w2.alloc (.cells #[.int .i64 y.f0, .int .u64 y.f1, .slice A2 y.f2.length c2, .bool y.f3, .int .i64 y.f4] 54)) W → W.cell? ⟨w2.heap.size, 0, none⟩ = some (.int .i64 y.f0) ∧ W.cell? ⟨w2.heap.size, 1, none⟩ = some (.int .u64 y.f1) ∧ W.cell? ⟨w2.heap.size, 2, none⟩ = some (.slice A2 y.f2.length c2) ∧ W.cell? ⟨w2.heap.size, 3, none⟩ = some (.bool y.f3) ∧ W.cell? ⟨w2.heap.size, 4, none⟩ = some (.int .i64 y.f4)) := Lib.hid (fun W hW => ⟨(hW.cell (p := ⟨w2.heap.size, 0, none⟩) (by simp)).trans (by go_simp), (hW.cell (p := ⟨w2.heap.size, 1, none⟩) (by simp)).trans (by go_simp), (hW.cell (p := ⟨w2.heap.size, 2, none⟩) (by simp)).trans (by go_simp), (hW.cell (p := ⟨w2.heap.size, 3, none⟩) (by simp)).trans (by go_simp), (hW.cell (p := ⟨w2.heap.size, 4, none⟩) (by simp)).trans (by go_simp)⟩)
      go_wp2_with fail
      have h4 := H4.out
      simp only [ne_eq, not_true_eq_false, if_false] at h4
      obtain ⟨e4, he4, h5⟩ := Option.bind_eq_some_iff.1 (show ((ruleCan k a1_0 l0 y a1_3).bind fun e => if e ≠ 0 then some e else if y.f1 = 18446744073709551615 then some 9 else some 0) = some r from by simpa using h4)
      obtain ⟨F, G, eg, hof, hcan⟩ := rule_can k a1_0 hkind _ c0 l0 y A2 c2 a1_3 e4 w HR.out HC0.out HG2.out HL2.out he4
      have HOF := Lib.hid hof
      have HCAN := Lib.hid hcan
      have H5 := Lib.hid h5
      clear h4 he4 h5 H4 hof hcan
      go_region_with (first
       | (go_at_call 63; refine (HOF.out _).mono ?_; rintro e w4 ⟨rfl, g1⟩; have HW4 := Lib.hid (HB3.out.drew.trans (g1.mono HB3.out.drew.size)); have HX4 := Lib.hid (HX3.out.drew.trans (g1.mono (by have := HX3.out.drew.size; simpa using this))); obtain ⟨f0, f1, f2, f3⟩ := HU.out w4 HX4.out; have HS4 := Lib.hid ((Below.refl (w2.alloc (.cells #[.int .i64 y.f0, .int .u64 y.f1, .slice A2 y.f2.length c2, .bool y.f3, .int .i64 y.f4] 54)).heap.size (w2.alloc (.cells #[.int .i64 y.f0, .int .u64 y.f1, .slice A2 y.f2.length c2, .bool y.f3, .int .i64 y.f4] 54))).drew.trans g1); obtain ⟨s0, s1, s2, s3, s4⟩ := HS.out w4 HS4.out; clear g1)
       | (refine (HCAN.out _ HW4.out).mono ?_; rintro e w5 ⟨rfl, g2⟩; have HW5 := Lib.hid (HW4.out.trans (g2.mono HW4.out.size)); have HS5 := Lib.hid (HS4.out.trans (g2.mono HS4.out.size)); obtain ⟨v0, v1, v2, v3, v4⟩ := HS.out w5 HS5.out; clear g2))
      all_goals (
       by_cases he0 : e4 = 0
       ·subst he0
        by_cases hmx : y.f1 = 18446744073709551615
        ·have h7 : (9 : Int) = r := Option.some.inj (by simpa [hmx] using H5.out)
         subst h7
         have b3 : (y.f1 == 18446744073709551615) = true := by simp [hmx]
         clear hmx
         go_wp2_with fail
         go_ret
         exact ⟨rfl, HW5.out⟩
        ·have h7 : (0 : Int) = r := Option.some.inj (by simpa [hmx] using H5.out)
         subst h7
         have b3 : (y.f1 == 18446744073709551615) = false := by simp [hmx]
         go_wp2_with fail
         go_ret
         exact ⟨rfl, HW5.out⟩
       ·have h7 : e4 = r := Option.some.inj (by simpa [he0] using H5.out)
        subst h7
        have b3 : (e4 != 0) = true := by simp [he0]
        go_wp2_with fail
        go_ret
        exact ⟨rfl, HW5.out⟩)
     ·have b2 : (y.f1 != a1_2) = true := by simp [hep]
      have h7 : (10 : Int) = r := Option.some.inj (by simpa [hep] using H4.out)
      subst h7
      clear H4
      go_wp2_with fail
      go_ret
      exact ⟨rfl, HB3.out⟩
  ·have h7 : x = r := Option.some.inj (by simpa [hx0] using H3.out)
   subst h7
   have b1 : (x != 0) = true := by simp [hx0]
   clear H3
   go_wp2_with fail
   go_ret
   exact ⟨rfl, HB2.out⟩
end Go.Proofs.YtlpkandfmbnlnaaDoor.Q
end
