/- The contracts of package fix: bytes that are put (Out) and bytes that are read (In). The contracts of package fix: bytes that are read (In). -/
import Derived.Test.YtlpkandfmbnlnaaDoorRows
import Derived.Test.YtlpkandfmbnlnaaDoorApp
import Derived.WalkKit
import Derived.Lib.SliceRun
import Derived.RegionTactic
import Derived.RegionCalls
import Derived.KernelRfl
import Derived.Lib.Hide
set_option linter.unusedVariables false
set_option linter.unusedSimpArgs false
set_option maxRecDepth 100000
namespace Go.Proofs.YtlpkandfmbnlnaaDoor.Fix
open Go Go.RowKit Go.Proofs.YtlpkandfmbnlnaaDoor.Mem Go.Proofs.YtlpkandfmbnlnaaDoor.Num

theorem info5 : (Tryd.prog.info? 5).map (fun i => (i.zero, i.size, i.bytes)) = some (some (.int .u8 0), 1, 1) := by kernel_rfl

theorem q27 (w : World) (a : Option Addr) (n c n' c' : Nat) : (binOp .eql 27 (.slice a n c) (.slice none n' c')).run Tryd.prog w = .ok (.bool a.isNone) w := Lib.run_eql_slice_nil w _ _ a n c n' c' Tryd.underlying27

/-- slices.Clone of bytes. -/
theorem clone_any (v : Value) (l : List Int) (w : World) (hs : Sl w .u8 v l) (hl : l.length ≤ 1000000) :
    Calls Tryd.prog 80 #[v] w fun e w' => ∃ u, e = .returned u ∧ Own w' w.heap.size 5 .u8 u l ∧ Below w.heap.size w w' := by
  obtain ⟨A, c, rfl, hc, hr, hn⟩ := hs.look
  have hq := q27
  cases A with
  | none =>
    obtain ⟨rfl, rfl⟩ := hn rfl
    go_enter Tryd.func80, Tryd.ntmps80
    go_wp2_with fail
    go_ret
    exact ⟨_, rfl, Own.nil _ _ _ _, Below.refl _ _⟩
  | some ad =>
    have hn : some ad = none → c = 0 ∧ l = [] := fun e => by cases e
    clear hs
    have ho := own_lit w w.heap.size 5 .u8 [] (Nat.le_refl _) (by simp)
    have hr1 := hr.alloc (.cells #[] 5)
    go_enter Tryd.func80, Tryd.ntmps80
    go_wp2_with (at_builtin; refine wp_app rfl _ _ _ rfl 5 .u8 1 Tryd.underlying27 info5 (by decide) w.heap.size (.slice (some ⟨w.heap.size, 0, none⟩) 0 0) [] rfl ho (some ad) c l rfl hr1 hn (by simp; omega) (by simp) ?_; intro v' w' ho' hg hat)
    go_ret
    refine ⟨_, rfl, ho', ?_⟩
    exact ((Below.refl w.heap.size w).alloc (Nat.le_refl _) _).grown hg (by simp) (fun k e => Nat.le_of_eq (Option.some.inj e))

/-! ### Out -/
/-- New. -/
theorem new_any (most : Int) (w : World) (hm : 0 < most) :
    Calls Tryd.prog 47 #[.int .i64 most] w fun e w' => e = .returned (.pointer (some ⟨w.heap.size, 0, none⟩)) ∧ w.alloc (.cells #[.slice none 0 0, .int .i64 most, .int .i64 0] 106) = w' := by
  have h1 : (most ≤ 0) = False := by simp; omega
  have h2 : decide (most < 0) = false := by simp; omega
  have h3 : decide (0 < most) = true := by simp; omega
  go_enter Tryd.func47, Tryd.ntmps47
  go_wp2_with fail
  go_ret
  exact ⟨rfl, rfl⟩
/-- fail keeps the first error. -/
theorem ofail_any (L : Nat) (v m : Value) (err e : Int) (w : World) (hL : Blk w L #[v, m, .int .i64 err] 106) :
    Calls Tryd.prog 109 #[.pointer (some ⟨L, 0, none⟩), .int .i64 e] w fun e2 w' => e2 = .returned (.tuple #[]) ∧ (if err = 0 then w.setCell ⟨L, 2, none⟩ (.int .i64 e) else w) = w' := by
  have c2 := hL.cell (i := 2) rfl
  have z2 := hL.free 2
  clear hL
  by_cases h : err = 0
  · have hb : (err == 0) = true := by simp [h]
    rw [if_pos h]
    clear h
    go_enter Tryd.func109, Tryd.ntmps109
    go_wp2_with fail
    go_end0
    exact ⟨rfl, rfl⟩
  · have hb : (err == 0) = false := by simp [h]
    rw [if_neg h]
    clear h
    go_enter Tryd.func109, Tryd.ntmps109
    go_wp2_with fail
    go_end0
    exact ⟨rfl, rfl⟩
/-- What is put behind, if nothing was wrong, and there is room. -/
def putS (l : List Int) (most err : Int) (r : List Int) : List Int × Int :=
  if err ≠ 0 then (l, err) else if (r.length : Int) > most - l.length then (l, 6) else (l ++ r, 0)
/-- An Out: its block, its row, what is in it. -/
def Out (w : World) (base L : Nat) (own : Option Nat) (l : List Int) (most err : Int) : Prop :=
  ∃ v, Blk w L #[v, .int .i64 most, .int .i64 err] 106 ∧ Own w base 5 .u8 v l ∧ v.ownBlock = own ∧ base ≤ L
theorem Out.touch {w w' : World} {base L : Nat} {own : Option Nat} {l : List Int} {most err : Int} {S : Nat → Prop} (h : Out w base L own l most err) (hg : Chg w w' S) (h1 : ¬ S L) (h2 : ∀ b, own = some b → ¬ S b) : Out w' base L own l most err := by
  obtain ⟨v, hb, ho, rfl, hL⟩ := h
  exact ⟨v, hb.touch hg h1, ho.touch hg h2, rfl, hL⟩
theorem Out.below {w w' : World} {base L : Nat} {own : Option Nat} {l : List Int} {most err : Int} (h : Out w base L own l most err) (hb : Below w.heap.size w w') : Out w' base L own l most err := by
  obtain ⟨v, h1, ho, rfl, hL⟩ := h
  exact ⟨v, h1.below hb h1.lt, ho.below hb, rfl, hL⟩
/-- What a change of an Out leaves alone. -/
def Outs (L : Nat) (own : Option Nat) : Nat → Prop := fun k => k = L ∨ own = some k

theorem oput_fin {w w' : World} {L base : Nat} {u v' : Value} {l r : List Int} {most : Int} (hL : base ≤ L) (hB : Blk w' L #[u, .int .i64 most, .int .i64 0] 106) (hO : Own w' base 5 .u8 v' (l ++ r))
    (hg : w.drew.grownBy w' u.ownBlock) (hat : v'.ownBlock = u.ownBlock ∨ v'.ownBlock = some w.drew.heap.size) :
    (∃ own', Out (w'.setCell ⟨L, 0, none⟩ v') base L own' (l ++ r) most 0 ∧ (own' = u.ownBlock ∨ ∃ b, own' = some b ∧ w.heap.size ≤ b)) ∧ Chg w (w'.setCell ⟨L, 0, none⟩ v') (Outs L u.ownBlock) := by
  refine ⟨⟨_, ⟨v', hB.set 0 v', hO.grown (grown_set w' 0 v') (.inr (own_row_blk_ne hO hB (by decide))), rfl, hL⟩, ?_⟩, ?_⟩
  · rcases hat with h | h
    · exact .inl h
    · exact .inr ⟨_, h, by simp⟩
  · have h1 : Chg w w' (Outs L u.ownBlock) := ((Chg.of_grown_none (grown_drew w none) (Outs L u.ownBlock))).trans (Chg.of_grown hg) (fun i e => .inl (.inr e))
    exact h1.set (.inl (.inl rfl)) _ _

set_option maxHeartbeats 1000000 in
theorem oput_any (L base : Nat) (own : Option Nat) (l : List Int) (most err : Int) (v : Value) (r : List Int) (w : World) (hO : Out w base L own l most err) (hs : Sl w .u8 v r) (hl : l.length ≤ 1000000) (hr : r.length ≤ 1000000) (hm : -1000000 ≤ most) (hm2 : most ≤ 1000000) (hb : base ≤ w.heap.size) :
    Calls Tryd.prog 111 #[.pointer (some ⟨L, 0, none⟩), v] w fun e w' => e = .returned (.tuple #[]) ∧
      (∃ own', Out w' base L own' (putS l most err r).1 most (putS l most err r).2 ∧ (own' = own ∨ ∃ b, own' = some b ∧ w.heap.size ≤ b)) ∧ Chg w w' (Outs L own) := by
  obtain ⟨u, hB, hO2, rfl, hbL⟩ := hO
  obtain ⟨A1, cap1, rfl, hc1, hr1, hn1⟩ := hO2.sl.look
  obtain ⟨A, c, rfl, hc, hrd, hn⟩ := hs.look
  have c0 := hB.cell (i := 0) (v := .slice A1 l.length cap1) rfl
  have c1 := hB.cell (i := 1) (v := .int .i64 most) rfl
  have c2 := hB.cell (i := 2) (v := .int .i64 err) rfl
  have z0 := hB.free 0
  have w1 : IntKind.i64.wrap (most - l.length) = most - l.length := i64_in _ (by omega) (by omega)
  by_cases h : err = 0
  · subst h
    by_cases h2 : (r.length : Int) > most - l.length
    · have hF := Lib.hid (ofail_any L (.slice A1 l.length cap1) (.int .i64 most) 0 6 w.drew hB.drew)
      have hb2 : decide ((r.length : Int) > most - l.length) = true := by simp [h2]
      have hp : putS l most 0 r = (l, 6) := by unfold putS; rw [if_neg (by simp), if_pos h2]
      rw [hp]
      have hfin : Out (w.drew.setCell ⟨L, 2, none⟩ (.int .i64 6)) base L (Value.slice A1 l.length cap1).ownBlock l most 6 :=
        ⟨_, (hB.drew).set 2 _, (show Own w.drew base _ _ _ _ from hO2).grown (grown_set w.drew 2 (.int .i64 6)) (own_row_blk_ne (w := w) hO2 hB (by decide) |> .inr), rfl, hbL⟩
      have hch : Chg w (w.drew.setCell ⟨L, 2, none⟩ (.int .i64 6)) (Outs L (Value.slice A1 l.length cap1).ownBlock) := (Chg.of_grown_none (grown_drew w none) _).set (.inl (.inl rfl)) _ _
      have HF := Lib.hid hfin
      have HC := Lib.hid hch
      clear hfin hch hB hO2 hr1 hrd hp h2
      go_enter Tryd.func111, Tryd.ntmps111
      go_wp2_with fail
      go_region
      all_goals (
        go_wp2_with fail
        refine hF.out.mono ?_
        rintro e w' ⟨rfl, rfl⟩
        go_wp2_with fail
        go_end0
        exact ⟨rfl, ⟨_, HF.out, .inl rfl⟩, HC.out⟩)
    · have hb2 : decide ((r.length : Int) > most - l.length) = false := by simp; omega
      have hp : putS l most 0 r = (l ++ r, 0) := by unfold putS; rw [if_neg (by simp), if_neg h2]
      rw [hp]
      have HB := Lib.hid hB
      have HO := Lib.hid hO2
      have HR := Lib.hid (hrd.grown (grown_drew w none) (by simp))
      have HN := Lib.hid (own_row_blk_ne (w := w) hO2 hB (by decide))
      clear hB hO2 hr1 hrd hp h2
      go_enter Tryd.func111, Tryd.ntmps111
      go_wp2_with fail
      go_region
      all_goals (
        go_wp2_with (at_builtin; refine wp_app rfl _ _ _ rfl 5 .u8 1 Tryd.underlying27 info5 (by decide) base (.slice A1 l.length cap1) l rfl HO.out A c r rfl HR.out hn (by omega) hb ?_; intro v' w' ho' hg hat; obtain ⟨A2, cap2, rfl, _, _, _⟩ := ho'.sl.look; have hB2 := HB.out.drew.grown hg (fun e => HN.out e.symm); have z0' := hB2.free 0; have c0' := hB2.cell (i := 0) (v := .slice A1 l.length cap1) rfl; have HB2 := Lib.hid hB2; have HO2 := Lib.hid ho'; have HG := Lib.hid hg; have HT := Lib.hid hat; clear hB2 ho' hg hat)
        go_end0
        have hf := oput_fin hbL HB2.out HO2.out HG.out HT.out
        rw [List.length_append] at hf
        exact ⟨rfl, hf⟩)
  · have hb1 : (err != 0) = true := by simp [h]
    have hp : putS l most err r = (l, err) := by unfold putS; rw [if_pos h]
    rw [hp]
    have hfin : Out w base L (Value.slice A1 l.length cap1).ownBlock l most err := ⟨_, hB, hO2, rfl, hbL⟩
    have HF := Lib.hid hfin
    clear hfin hB hO2 hr1 hrd hp h
    go_enter Tryd.func111, Tryd.ntmps111
    go_wp2_with fail
    go_end0
    exact ⟨rfl, ⟨_, HF.out, .inl rfl⟩, Chg.refl _ _⟩

/-- A width that is one. -/
theorem known_any (n : Int) (w : World) : Calls Tryd.prog 108 #[.int .i64 n] w fun e w' => e = .returned (.bool (decide (1 ≤ n ∧ n ≤ 8))) ∧ w = w' := by
  by_cases h1 : 1 ≤ n
  · by_cases h2 : n ≤ 8
    · have hb1 : decide (n ≥ 1) = true := by simp [h1]
      have hb2 : decide (n ≤ 8) = true := by simp [h2]
      have hr : decide (1 ≤ n ∧ n ≤ 8) = true := by simp [h1, h2]
      rw [hr]
      go_enter Tryd.func108, Tryd.ntmps108
      go_wp2_with fail
      go_ret
      exact ⟨by simp [hb1, hb2, h1, h2], rfl⟩
    · have hb1 : decide (n ≥ 1) = true := by simp [h1]
      have hb2 : decide (n ≤ 8) = false := by simp [h2]
      have hr : decide (1 ≤ n ∧ n ≤ 8) = false := by simp [h1, h2]
      rw [hr]
      go_enter Tryd.func108, Tryd.ntmps108
      go_wp2_with fail
      go_ret
      exact ⟨by simp [hb1, hb2, h1, h2], rfl⟩
  · have hb1 : decide (n ≥ 1) = false := by simp; omega
    have hr : decide (1 ≤ n ∧ n ≤ 8) = false := by simp; omega
    rw [hr]
    go_enter Tryd.func108, Tryd.ntmps108
    go_wp2_with fail
    go_ret
    exact ⟨rfl, rfl⟩

/-- What fits in a width. -/
theorem fits_any (n : Nat) (k : Nat) (w : World) (hn : n < 18446744073709551616) (hk1 : 1 ≤ k) (hk : k ≤ 8) :
    Calls Tryd.prog 110 #[.int .u64 n, .int .i64 k] w fun e w' => e = .returned (.bool (decide (n < 256 ^ k))) ∧ w = w' := by
  by_cases h8 : k = 8
  · subst h8
    have hr : decide (n < 256 ^ 8) = true := by simp; omega
    rw [hr]
    go_enter Tryd.func110, Tryd.ntmps110
    go_wp2_with fail
    go_ret
    exact ⟨rfl, rfl⟩
  · have hb1 : (((k : Nat) : Int) == 8) = false := by simp; omega
    have hw : IntKind.i64.wrap (8 * (k : Int)) = ((8 * k : Nat) : Int) := by rw [i64_in _ (by omega) (by omega)]; omega
    have h0 : decide (0 ≤ ((8 * k : Nat) : Int)) = true := by simp; omega
    have hfin : (((n : Int) / 2 ^ (8 * k)) == 0) = decide (n < 256 ^ k) := by
      have e1 : ((n : Int) / 2 ^ (8 * k)) = ((n / 2 ^ (8 * k) : Nat) : Int) := by simp
      rw [e1, ← pow_width]
      by_cases hlt : n < 256 ^ k
      · simp [hlt, Nat.div_eq_of_lt hlt]
      · have h1 : 1 ≤ n / 256 ^ k := (Nat.le_div_iff_mul_le (Nat.pow_pos (by decide))).2 (by omega)
        have h2 : ((((n / 256 ^ k : Nat) : Int)) == 0) = false := by simp only [beq_eq_false_iff_ne]; omega
        rw [h2]
        simp [hlt]
    have HF := Lib.hid hfin
    clear hfin
    go_enter Tryd.func110, Tryd.ntmps110
    go_wp2_with fail
    go_ret
    exact ⟨by rw [HF.out]; rfl, rfl⟩

set_option maxHeartbeats 1000000 in
/-- A number's bytes. -/
theorem laid_any (n k : Nat) (w : World) (hn : n < 18446744073709551616) (hk : k ≤ 8) :
    Calls Tryd.prog 112 #[.int .u64 n, .int .i64 k] w fun e w' => ∃ u, e = .returned u ∧ Own w' w.heap.size 5 .u8 u (be k n) ∧ Below w.heap.size w w' := by
  go_enter Tryd.func112, Tryd.ntmps112
  go_wp2_with (first | (at_builtin; fail) | (refine wp_mk rfl _ _ rfl 5 .u8 1 Tryd.underlying27 info5 (by decide) w.heap.size .i64 k rfl (by omega) (Nat.le_refl _) ?_; intro w1 ho hg; have HO := Lib.hid ho; have HG := Lib.hid hg; clear ho hg))
  go_loopw [11] (fun i wr => ∃ j : Nat, j ≤ k ∧ i = .int .i64 j ∧ Hid (Own wr w.heap.size 5 .u8 (.slice (some ⟨w.heap.size, 0, none⟩) k k) (List.replicate (k - j) 0 ++ be j n) ∧ Below w.heap.size w wr)) (fun i _ => k - (intOf i).toNat)
  case atStart => exact ⟨0, by omega, rfl, ⟨by simpa [be] using HO.out, (Below.refl _ _).grown HG.out (Nat.le_refl _) (by simp)⟩⟩
  case round =>
    obtain ⟨j, hj, rfl, hrel⟩ := hrel
    obtain ⟨hO, hB⟩ := hrel.out
    by_cases hlt : j < k
    · have h1 : decide ((j : Int) < k) = true := by simp [hlt]
      have hw1 : IntKind.i64.wrap ((k : Int) - 1) = ((k - 1 : Nat) : Int) := by rw [i64_in _ (by omega) (by omega)]; omega
      have hw2 : IntKind.i64.wrap (((k - 1 : Nat) : Int) - j) = ((k - 1 - j : Nat) : Int) := by rw [i64_in _ (by omega) (by omega)]; omega
      have hw3 : IntKind.i64.wrap (8 * (j : Int)) = ((8 * j : Nat) : Int) := by rw [i64_in _ (by omega) (by omega)]; omega
      have h2 : decide (0 ≤ ((8 * j : Nat) : Int)) = true := by rw [decide_eq_true_eq]; omega
      have h3 : decide (0 ≤ ((k - 1 - j : Nat) : Int)) = true := by rw [decide_eq_true_eq]; omega
      have h4 : decide (((k - 1 - j : Nat) : Int) < k) = true := by rw [decide_eq_true_eq]; omega
      have hc := hO.cell (j := k - 1 - j) (by simp [be_len]; omega)
      have hz := hO.free (k - 1 - j)
      have h5 : Own (wr.setCell ⟨w.heap.size, k - 1 - j, none⟩ (.int .u8 ((n : Int) / 2 ^ (8 * j) % 256))) w.heap.size 5 .u8 (.slice (some ⟨w.heap.size, 0, none⟩) k k) (List.replicate (k - (j + 1)) 0 ++ be (j + 1) n) := by
        have := hO.store (k - 1 - j) ((n : Int) / 2 ^ (8 * j) % 256)
        rwa [set_be k j n hlt] at this
      have H5 := Lib.hid h5
      have HB := Lib.hid hB
      clear hO hB h5 hrel
      go_wp2_with fail
      go_roundw
      case rel => exact ⟨j + 1, by omega, by go_num, H5.out, HB.out.setCell (Nat.le_refl _) _⟩
      case measure => simp [intOf]; omega
    · have h1 : decide ((j : Int) < k) = false := by simp; omega
      have hjk : j = k := by omega
      subst hjk
      have HO2 := Lib.hid hO
      have HB := Lib.hid hB
      clear hO hB hrel
      go_wp2_with fail
      go_ret
      exact ⟨_, rfl, by simpa using HO2.out, HB.out⟩

/-- A number that is put. -/
def putN (l : List Int) (most err : Int) (n k : Nat) : List Int × Int := if n < 256 ^ k then putS l most err (be k n) else (l, if err = 0 then 4 else err)

theorem Out.blk {w : World} {base L : Nat} {own : Option Nat} {l : List Int} {most err : Int} (h : Out w base L own l most err) : ∃ v, Blk w L #[v, .int .i64 most, .int .i64 err] 106 ∧ v.ownBlock = own := by
  obtain ⟨v, h1, _, h3, _⟩ := h
  exact ⟨v, h1, h3⟩
theorem Out.failed {w : World} {base L : Nat} {own : Option Nat} {l : List Int} {most err : Int} (h : Out w base L own l most err) (e : Int) : Out (if err = 0 then w.setCell ⟨L, 2, none⟩ (.int .i64 e) else w) base L own l most (if err = 0 then e else err) := by
  by_cases h0 : err = 0
  · rw [if_pos h0, if_pos h0]
    obtain ⟨v, hB, hO, rfl, hL⟩ := h
    exact ⟨v, hB.set 2 _, hO.grown (grown_set w 2 _) (.inr (own_row_blk_ne hO hB (by decide))), rfl, hL⟩
  · rw [if_neg h0, if_neg h0]
    exact h
theorem Out.failed_chg {w : World} {L : Nat} (own : Option Nat) (err e : Int) : Chg w (if err = 0 then w.setCell ⟨L, 2, none⟩ (.int .i64 e) else w) (Outs L own) := by
  by_cases h0 : err = 0
  · rw [if_pos h0]
    exact (Chg.refl _ _).set (.inl (.inl rfl)) _ _
  · rw [if_neg h0]
    exact Chg.refl _ _

set_option maxHeartbeats 1000000 in
/-- Put: a number in a width. -/
theorem put_any (L base : Nat) (own : Option Nat) (l : List Int) (most err : Int) (n k : Nat) (w : World) (hO : Out w base L own l most err) (hn : n < 18446744073709551616) (hk1 : 1 ≤ k) (hk : k ≤ 8) (hl : l.length ≤ 1000000) (hm : -1000000 ≤ most) (hm2 : most ≤ 1000000) (hb : base ≤ w.heap.size) :
    Calls Tryd.prog 79 #[.pointer (some ⟨L, 0, none⟩), .int .u64 n, .int .i64 k] w fun e w' => e = .returned (.tuple #[]) ∧
      (∃ own', Out w' base L own' (putN l most err n k).1 most (putN l most err n k).2 ∧ (own' = own ∨ ∃ b, own' = some b ∧ w.heap.size ≤ b)) ∧ Chg w w' (Outs L own) := by
  have hkn : decide (1 ≤ (k : Int) ∧ (k : Int) ≤ 8) = true := by rw [decide_eq_true_eq]; omega
  have hKn := known_any k w
  rw [hkn] at hKn
  have HK := Lib.hid hKn
  have hF := fits_any n k w hn hk1 hk
  have HO := Lib.hid hO
  clear hKn hkn
  by_cases hlt : n < 256 ^ k
  · have hd : decide (n < 256 ^ k) = true := by simp [hlt]
    rw [hd] at hF
    have HF := Lib.hid hF
    have hp : putN l most err n k = putS l most err (be k n) := if_pos hlt
    rw [hp]
    clear hF hO hd hp hlt
    go_enter Tryd.func79, Tryd.ntmps79
    go_wp2_with fail
    refine HK.out.mono ?_
    rintro e w' ⟨rfl, rfl⟩
    go_wp2_with fail
    refine HF.out.mono ?_
    rintro e w' ⟨rfl, rfl⟩
    go_wp2_with fail
    refine (laid_any n k w hn hk).mono ?_
    rintro e w1 ⟨u, rfl, ho, hbl⟩
    have HB := Lib.hid hbl
    have HP := Lib.hid (oput_any L base own l most err u (be k n) w1 (HO.out.below hbl) ho.sl hl (by rw [be_len]; omega) hm hm2 (Nat.le_trans hb hbl.size))
    clear ho hbl
    go_wp2_with fail
    refine HP.out.mono ?_
    rintro e w2 ⟨rfl, ⟨own', h1, h2⟩, h3⟩
    have H1 := Lib.hid h1
    have H2 := Lib.hid h2
    have H3 := Lib.hid h3
    clear h1 h2 h3
    go_wp2_with fail
    go_end0
    refine ⟨rfl, ⟨own', H1.out, ?_⟩, (Chg.of_below HB.out (Outs L own)).trans H3.out (fun i e => .inl e)⟩
    rcases H2.out with h | ⟨b, h, hb2⟩
    · exact .inl h
    · exact .inr ⟨b, h, Nat.le_trans HB.out.size hb2⟩
  · have hd : decide (n < 256 ^ k) = false := by simp [hlt]
    rw [hd] at hF
    have HF := Lib.hid hF
    have hp : putN l most err n k = (l, if err = 0 then 4 else err) := if_neg hlt
    have HP := Lib.hid hp
    obtain ⟨v, hB, hv⟩ := hO.blk
    have HFL := Lib.hid (ofail_any L v (.int .i64 most) err 4 w hB)
    clear hF hO hd hp hlt hB
    go_enter Tryd.func79, Tryd.ntmps79
    go_wp2_with fail
    refine HK.out.mono ?_
    rintro e w' ⟨rfl, rfl⟩
    go_wp2_with fail
    refine HF.out.mono ?_
    rintro e w' ⟨rfl, rfl⟩
    go_wp2_with fail
    refine HFL.out.mono ?_
    rintro e w' ⟨rfl, hw⟩
    have HW := Lib.hid hw
    clear hw
    go_wp2_with fail
    go_end0
    have hw := HW.out
    subst hw
    rw [HP.out]
    exact ⟨rfl, ⟨own, HO.out.failed 4, .inl rfl⟩, Out.failed_chg own err 4⟩

def doneS (l : List Int) (err : Int) : List Int := if err = 0 then l else []
set_option maxHeartbeats 1000000 in
/-- Done: all bytes, or the first error. -/
theorem done_any (L base : Nat) (own : Option Nat) (l : List Int) (most err : Int) (w : World) (hO : Out w base L own l most err) (hl : l.length ≤ 1000000) :
    Calls Tryd.prog 49 #[.pointer (some ⟨L, 0, none⟩)] w fun e w' => ∃ u, e = .returned (.tuple #[u, .int .i64 err]) ∧ Own w' w.heap.size 5 .u8 u (doneS l err) ∧ Below w.heap.size w w' := by
  obtain ⟨u, hB, hO2, rfl, hbL⟩ := hO
  obtain ⟨A1, cap1, rfl, hc1, hr1, hn1⟩ := hO2.sl.look
  have c0 := hB.cell (i := 0) (v := .slice A1 l.length cap1) rfl
  have c2 := hB.cell (i := 2) (v := .int .i64 err) rfl
  have HC := Lib.hid (clone_any (.slice A1 l.length cap1) l w hO2.sl hl)
  clear hB hO2 hr1 hn1
  by_cases h : err = 0
  · subst h
    go_enter Tryd.func49, Tryd.ntmps49
    go_wp2_with fail
    refine HC.out.mono ?_
    rintro e w' ⟨v, rfl, h1, h2⟩
    have H1 := Lib.hid h1
    have H2 := Lib.hid h2
    clear h1 h2
    go_wp2_with fail
    go_ret2
    exact ⟨v, rfl, by unfold doneS; rw [if_pos rfl]; exact H1.out, H2.out⟩
  · have hb1 : (err != 0) = true := by simp [h]
    have HE := Lib.hid h
    clear h
    go_enter Tryd.func49, Tryd.ntmps49
    go_wp2_with fail
    go_region
    all_goals (
      go_wp2_with fail
      go_ret2
      exact ⟨_, rfl, by unfold doneS; rw [if_neg HE.out]; exact Own.nil _ _ _ _, (Below.refl _ _).drew⟩)

end Go.Proofs.YtlpkandfmbnlnaaDoor.Fix

namespace Go.Proofs.YtlpkandfmbnlnaaDoor.Fix
open Go Go.RowKit Go.Proofs.YtlpkandfmbnlnaaDoor.Mem Go.Proofs.YtlpkandfmbnlnaaDoor.Num

/-- An In: its block, what is left in it, its error. -/
def In (w : World) (I : Nat) (l : List Int) (err : Int) : Prop :=
  ∃ A c, Blk w I #[.slice A l.length c, .int .i64 err] 110 ∧ l.length ≤ c ∧ Rd w .u8 A l ∧ ((A = none ∧ c = 0 ∧ l = []) ∨ ∃ b off, A = some ⟨b, off, none⟩ ∧ b ≠ I)
theorem In.lt {w : World} {I : Nat} {l : List Int} {err : Int} (h : In w I l err) : I < w.heap.size := by
  obtain ⟨A, c, hB, _⟩ := h
  exact hB.lt
theorem In.below {w w' : World} {I : Nat} {l : List Int} {err : Int} (h : In w I l err) (hb : Below w.heap.size w w') : In w' I l err := by
  obtain ⟨A, c, hB, hc, hr, ha⟩ := h
  exact ⟨A, c, hB.below hb hB.lt, hc, hr.below hb, ha⟩
theorem Own.look2 {w : World} {base : Nat} {e : TypeId} {k : IntKind} {v : Value} {l : List Int} (h : Own w base e k v l) :
    ∃ A c, v = .slice A l.length c ∧ l.length ≤ c ∧ Rd w k A l ∧ ((A = none ∧ c = 0 ∧ l = []) ∨ ∃ b off, A = some ⟨b, off, none⟩ ∧ b < w.heap.size) := by
  obtain ⟨A, c, h1, h2, h3, h4⟩ := h.look
  refine ⟨A, c, h1, h2, h3, ?_⟩
  rcases h.2 with ⟨hv, _⟩ | ⟨g, cap', cur, hv, _, hh, _⟩
  · rw [h1] at hv
    simp only [Value.slice.injEq] at hv
    exact .inl ⟨hv.1, hv.2.2, h4 hv.1⟩
  · rw [h1] at hv
    simp only [Value.slice.injEq] at hv
    exact .inr ⟨g, 0, hv.1, (Array.getElem?_eq_some_iff.1 hh).1⟩
theorem In.new {w : World} {A : Option Addr} {c : Nat} {l : List Int} (hc : l.length ≤ c) (hr : Rd w .u8 A l) (hn : (A = none ∧ c = 0 ∧ l = []) ∨ ∃ b off, A = some ⟨b, off, none⟩ ∧ b < w.heap.size) :
    In (w.alloc (.cells #[.slice A l.length c, .int .i64 0] 110)) w.heap.size l 0 := by
  refine ⟨A, c, Blk.new w _ _, hc, hr.alloc _, ?_⟩
  rcases hn with h | ⟨b, off, h, hlt⟩
  · exact .inl h
  · exact .inr ⟨b, off, h, by omega⟩

/-- Of: bytes from their beginning. -/
theorem of_any (v : Value) (l : List Int) (w : World) (hs : Sl w .u8 v l) (hl : l.length ≤ 1000000) :
    Calls Tryd.prog 50 #[v] w fun e w' => ∃ I, e = .returned (.pointer (some ⟨I, 0, none⟩)) ∧ In w' I l 0 ∧ w.heap.size ≤ I ∧ Below w.heap.size w w' := by
  have HC := Lib.hid (clone_any v l w hs hl)
  clear hs
  go_enter Tryd.func50, Tryd.ntmps50
  go_wp2_with fail
  refine HC.out.mono ?_
  rintro e w' ⟨u, rfl, h1, h2⟩
  obtain ⟨A, c, rfl, hc, hr, hn⟩ := Own.look2 h1
  have HR := Lib.hid hr
  have HN := Lib.hid hn
  have H2 := Lib.hid h2
  clear h1 h2 hr hn
  go_wp2_with fail
  go_ret
  exact ⟨_, rfl, In.new hc HR.out HN.out, H2.out.size, H2.out.alloc H2.out.size _⟩

/-- fail keeps the first error; no bytes are left. -/
theorem ifail_any (I : Nat) (l : List Int) (err e : Int) (w : World) (hI : In w I l err) :
    Calls Tryd.prog 114 #[.pointer (some ⟨I, 0, none⟩), .int .i64 e] w fun e2 w' => e2 = .returned (.tuple #[]) ∧ In w' I [] (if err = 0 then e else err) ∧ w.grownBy w' (some I) := by
  obtain ⟨A, c, hB, hc, hr, ha⟩ := hI
  have c1 := hB.cell (i := 1) (v := .int .i64 err) rfl
  have z1 := hB.free 1
  by_cases h : err = 0
  · subst h
    rw [if_pos rfl]
    have c0 := (hB.set 1 (.int .i64 e)).cell (i := 0) (v := .slice A l.length c) rfl
    have z0 := (hB.set 1 (.int .i64 e)).free 0
    have hfin : In ((w.setCell ⟨I, 1, none⟩ (.int .i64 e)).setCell ⟨I, 0, none⟩ (.slice none 0 0)) I [] e := ⟨none, 0, (hB.set 1 _).set 0 _, Nat.le_refl _, Rd.nil _ _ _, .inl ⟨rfl, rfl, rfl⟩⟩
    have HF := Lib.hid hfin
    clear hB hr ha hfin
    go_enter Tryd.func114, Tryd.ntmps114
    go_wp2_with fail
    go_end0
    exact ⟨rfl, HF.out, grown_trans (grown_set _ _ _) (grown_set _ _ _)⟩
  · rw [if_neg h]
    have hb1 : (err == 0) = false := by simp [h]
    have c0 := hB.cell (i := 0) (v := .slice A l.length c) rfl
    have z0 := hB.free 0
    have hfin : In (w.setCell ⟨I, 0, none⟩ (.slice none 0 0)) I [] err := ⟨none, 0, hB.set 0 _, Nat.le_refl _, Rd.nil _ _ _, .inl ⟨rfl, rfl, rfl⟩⟩
    have HF := Lib.hid hfin
    clear hB hr ha hfin h
    go_enter Tryd.func114, Tryd.ntmps114
    go_wp2_with fail
    go_end0
    exact ⟨rfl, HF.out, grown_set _ _ _⟩

/-- What next leaves, and what it gives. -/
def nL (l : List Int) (err : Int) (n : Nat) : List Int := if err ≠ 0 then l else if l.length < n then [] else l.drop n
def nE (l : List Int) (err : Int) (n : Nat) : Int := if err ≠ 0 then err else if l.length < n then 3 else 0
def nOk (l : List Int) (err : Int) (n : Nat) : Bool := decide (err = 0 ∧ n ≤ l.length)
def nR (l : List Int) (err : Int) (n : Nat) : List Int := if err = 0 ∧ n ≤ l.length then l.take n else []

theorem take_sl {w : World} {k : IntKind} {b off n : Nat} {l : List Int} (hr : Rd w k (some ⟨b, off, none⟩) l) (h3 : n ≤ l.length) : Sl w k (.slice (some ⟨b, off, none⟩) n n) (l.take n) := by
  have e : (l.take n).length = n := by simp [h3]
  refine ⟨some ⟨b, off, none⟩, n, by rw [e], by omega, hr.take n, fun e => by cases e⟩
theorem next_fin {w : World} {I b off off' n c c' : Nat} {l : List Int} {v : Value} (hB : Blk w I #[v, .int .i64 0] 110) (hr : Rd w .u8 (some ⟨b, off, none⟩) l) (h3 : n ≤ l.length) (hne : b ≠ I)
    (ho : l.length = n ∨ off' = off + n) (hc : l.length - n ≤ c') :
    In (w.setCell ⟨I, 0, none⟩ (.slice (some ⟨b, off', none⟩) (l.length - n) c')) I (l.drop n) 0 ∧ Sl (w.setCell ⟨I, 0, none⟩ (.slice (some ⟨b, off', none⟩) (l.length - n) c')) .u8 (.slice (some ⟨b, off, none⟩) n n) (l.take n) ∧
      w.grownBy (w.setCell ⟨I, 0, none⟩ (.slice (some ⟨b, off', none⟩) (l.length - n) c')) (some I) := by
  have hg := grown_set (B := I) w 0 (.slice (some ⟨b, off', none⟩) (l.length - n) c')
  have hr2 := hr.grown hg (fun b' o' e => by simp only [Option.some.injEq, Addr.mk.injEq] at e; rw [← e.1]; simpa using hne)
  have e1 : (l.drop n).length = l.length - n := by simp
  refine ⟨⟨some ⟨b, off', none⟩, c', ?_, by omega, ?_, .inr ⟨b, off', rfl, hne⟩⟩, take_sl hr2 h3, hg⟩
  · rw [e1]
    exact hB.set 0 _
  · rcases ho with h | h
    · have : l.drop n = [] := by rw [← h]; simp
      rw [this]
      exact Rd.nil _ _ _
    · subst h
      exact hr2.drop n

set_option maxHeartbeats 1000000 in
/-- next: the next bytes. -/
theorem next_any (I : Nat) (l : List Int) (err : Int) (n : Nat) (w : World) (hI : In w I l err) (hl : l.length ≤ 1000000) (hn : n ≤ 1000000) :
    Calls Tryd.prog 115 #[.pointer (some ⟨I, 0, none⟩), .int .i64 n] w fun e w' => ∃ v, e = .returned (.tuple #[v, .bool (nOk l err n)]) ∧ In w' I (nL l err n) (nE l err n) ∧ Sl w' .u8 v (nR l err n) ∧ w.grownBy w' (some I) := by
  have HI := Lib.hid hI
  obtain ⟨A, c, hB, hc, hr, ha⟩ := hI
  have c0 := hB.cell (i := 0) (v := .slice A l.length c) rfl
  have c1 := hB.cell (i := 1) (v := .int .i64 err) rfl
  by_cases h : err = 0
  · by_cases h2 : l.length < n
    · have hb2 : decide ((l.length : Int) < n) = true := by simp [h2]
      have e1 : nOk l err n = false := by unfold nOk; simp [h]; omega
      have e2 : nL l err n = [] := by unfold nL; rw [if_neg (by simp [h]), if_pos h2]
      have e3 : nE l err n = 3 := by unfold nE; rw [if_neg (by simp [h]), if_pos h2]
      have e4 : nR l err n = [] := by unfold nR; rw [if_neg (by omega)]
      rw [e1, e2, e3, e4]
      subst h
      have HF := Lib.hid (ifail_any I l 0 3 w HI.out)
      clear hB hr ha e1 e2 e3 e4 hb2
      go_enter Tryd.func115, Tryd.ntmps115
      go_wp2_with fail
      refine HF.out.mono ?_
      rintro e w' ⟨rfl, h1, h2⟩
      have H1 := Lib.hid h1
      have H2 := Lib.hid h2
      clear h1 h2
      go_wp2_with fail
      go_ret2
      exact ⟨_, rfl, H1.out, Sl.nil _ _, H2.out⟩
    · have hb2 : decide ((l.length : Int) < n) = false := by simp; omega
      have e1 : nOk l err n = true := by unfold nOk; simp [h]; omega
      have e2 : nL l err n = l.drop n := by unfold nL; rw [if_neg (by simp [h]), if_neg h2]
      have e3 : nE l err n = 0 := by unfold nE; rw [if_neg (by simp [h]), if_neg h2]
      have e4 : nR l err n = l.take n := by unfold nR; rw [if_pos (by omega)]
      rw [e1, e2, e3, e4]
      subst h
      have h3 : n ≤ l.length := by omega
      have z0 := hB.free 0
      have hcn : n ≤ c := by omega
      clear e1 e2 e3 e4 hb2
      rcases ha with ⟨rfl, rfl, rfl⟩ | ⟨b, off, rfl, hne⟩
      · have hn0 : n = 0 := by simpa using h3
        subst hn0
        have HB := Lib.hid hB
        clear hB hr
        go_enter Tryd.func115, Tryd.ntmps115
        go_wp2_with fail
        go_ret2
        exact ⟨_, rfl, ⟨none, 0, HB.out.set 0 _, Nat.le_refl _, Rd.nil _ _ _, .inl ⟨rfl, rfl, rfl⟩⟩, Sl.nil _ _, grown_set _ _ _⟩
      · by_cases hcc : n = c
        · subst hcc
          have hln : l.length = n := by omega
          have hf := next_fin (c := 0) (c' := 0) (off' := off) hB hr h3 hne (.inl hln) (by omega)
          rw [hln, Nat.sub_self] at hf
          have HF := Lib.hid hf
          clear hB hr hln hne hf
          go_enter Tryd.func115, Tryd.ntmps115
          go_wp2_with fail
          go_ret2
          exact ⟨_, rfl, HF.out⟩
        · have HF := Lib.hid (next_fin (c := 0) (c' := c - n) (off' := off + n) hB hr h3 hne (.inr rfl) (by omega))
          clear hB hr hne
          go_enter Tryd.func115, Tryd.ntmps115
          go_wp2_with fail
          go_ret2
          exact ⟨_, rfl, HF.out⟩
  · have hb1 : (err != 0) = true := by simp [h]
    have e1 : nOk l err n = false := by unfold nOk; simp [h]
    have e2 : nL l err n = l := by unfold nL; rw [if_pos h]
    have e3 : nE l err n = err := by unfold nE; rw [if_pos h]
    have e4 : nR l err n = [] := by unfold nR; rw [if_neg (by omega)]
    rw [e1, e2, e3, e4]
    clear hB hr ha h e1 e2 e3 e4
    go_enter Tryd.func115, Tryd.ntmps115
    go_wp2_with fail
    go_ret2
    exact ⟨_, rfl, HI.out, Sl.nil _ _, grown_refl _ _⟩

set_option maxHeartbeats 1000000 in
/-- The number that bytes are. -/
theorem number_any (v : Value) (l : List Int) (w : World) (hs : Sl w .u8 v l) (hb : Bytes l) (hl : l.length ≤ 1000000) :
    Calls Tryd.prog 138 #[v] w fun e w' => e = .returned (.int .u64 (num l)) ∧ w = w' := by
  obtain ⟨A, c, rfl, hc, hr, hn⟩ := hs.look
  have HR := Lib.hid hr
  have HBy := Lib.hid hb
  clear hs hr hb hn
  go_enter Tryd.func138, Tryd.ntmps138
  go_wp2_with fail
  go_loopw [3, 8] (fun s i wr => ∃ j : Nat, j ≤ l.length ∧ i = .int .i64 j ∧ s = .int .u64 (num (l.take j)) ∧ Hid (w = wr)) (fun _ i _ => l.length - (intOf i).toNat)
  case atStart => exact ⟨0, by omega, rfl, by simp [num], rfl⟩
  case round =>
    obtain ⟨j, hj, rfl, rfl, hrel⟩ := hrel
    have hw := hrel.out
    subst hw
    clear hrel
    by_cases hlt : j < l.length
    · obtain ⟨b, off, rfl, hbl, hcell⟩ := HR.out (by omega)
      have hc1 := hcell j hlt
      have hx := HBy.out.getD j
      have ht : num (l.take (j + 1)) = (num (l.take j) * 256 + l.getD j 0) % 18446744073709551616 := by
        have : l.take (j + 1) = l.take j ++ [l.getD j 0] := by
          rw [List.take_succ_eq_append_getElem hlt]
          simp [List.getD, hlt]
        rw [this, num_snoc]
      have hor := or_shl (num (l.take j)) (l.getD j 0) hx.1 hx.2
      rw [← ht] at hor
      generalize l.getD j 0 = x at *
      clear hcell ht
      have hwx : IntKind.u64.wrap x = x := by rw [w64]; omega
      go_wp2_with fail
      go_roundw
      case rel => exact ⟨j + 1, by omega, by go_num, rfl, Lib.hid trivial⟩
      case measure => simp [intOf]; omega
    · have hjk : j = l.length := by omega
      subst hjk
      rw [List.take_length]
      go_wp2_with fail
      go_ret
      exact ⟨rfl, rfl⟩

/-! ### What is read of an In -/
def uOk (l : List Int) (err : Int) (k : Nat) : Bool := decide (err = 0 ∧ k ≤ l.length)
/-- What Upto leaves, and what it gives. -/
def uL (l : List Int) (err : Int) (k : Nat) (most : Int) : List Int := if err ≠ 0 then l else if l.length < k then [] else if num (l.take k) > most then [] else l.drop k
def uE (l : List Int) (err : Int) (k : Nat) (most : Int) : Int := if err ≠ 0 then err else if l.length < k then 3 else if num (l.take k) > most then 4 else 0
def uV (l : List Int) (err : Int) (k : Nat) (most : Int) : Int := if err = 0 ∧ k ≤ l.length ∧ num (l.take k) ≤ most then num (l.take k) else 0

set_option maxHeartbeats 1000000 in
/-- Upto: a number that is not above another one. -/
theorem upto_any (I : Nat) (l : List Int) (err : Int) (k : Nat) (most : Int) (w : World) (hI : In w I l err) (hl : l.length ≤ 1000000) (hk1 : 1 ≤ k) (hk : k ≤ 8) (hb : Bytes l) :
    Calls Tryd.prog 116 #[.pointer (some ⟨I, 0, none⟩), .int .i64 k, .int .u64 most] w fun e w' => e = .returned (.int .u64 (uV l err k most)) ∧ In w' I (uL l err k most) (uE l err k most) ∧ w.grownBy w' (some I) := by
  have HI := Lib.hid hI
  obtain ⟨A, c, hB, hc, hr, ha⟩ := hI
  have c1 := hB.cell (i := 1) (v := .int .i64 err) rfl
  have hkn : decide (1 ≤ (k : Int) ∧ (k : Int) ≤ 8) = true := by rw [decide_eq_true_eq]; omega
  have hKn := known_any k w
  rw [hkn] at hKn
  have HK := Lib.hid hKn
  have HX := Lib.hid (next_any I l err k w HI.out hl (by omega))
  clear hKn hkn hB hr ha
  have HBy := Lib.hid hb
  clear hb
  by_cases h : err = 0
  · subst h
    by_cases h2 : l.length < k
    · have e1 : uL l 0 k most = [] := by unfold uL; rw [if_neg (by simp), if_pos h2]
      have e2 : uE l 0 k most = 3 := by unfold uE; rw [if_neg (by simp), if_pos h2]
      have e3 : uV l 0 k most = 0 := by unfold uV; rw [if_neg (by omega)]
      have e4 : nOk l 0 k = false := by unfold nOk; simp; omega
      have e5 : nL l 0 k = [] := by unfold nL; rw [if_neg (by simp), if_pos h2]
      have e6 : nE l 0 k = 3 := by unfold nE; rw [if_neg (by simp), if_pos h2]
      rw [e1, e2, e3]
      rw [e4, e5, e6] at HX
      clear e1 e2 e3 e4 e5 e6
      go_enter Tryd.func116, Tryd.ntmps116
      go_wp2_with fail
      refine HK.out.mono ?_
      rintro e w' ⟨rfl, rfl⟩
      go_wp2_with fail
      refine HX.out.mono ?_
      rintro e w' ⟨v, rfl, h1, h2, h3⟩
      have H1 := Lib.hid h1
      have H3 := Lib.hid h3
      clear h1 h2 h3
      go_wp2_with fail
      go_ret
      exact ⟨rfl, H1.out, H3.out⟩
    · have e4 : nOk l 0 k = true := by unfold nOk; simp; omega
      have e5 : nL l 0 k = l.drop k := by unfold nL; rw [if_neg (by simp), if_neg h2]
      have e6 : nE l 0 k = 0 := by unfold nE; rw [if_neg (by simp), if_neg h2]
      have e7 : nR l 0 k = l.take k := by unfold nR; rw [if_pos (by omega)]
      rw [e4, e5, e6, e7] at HX
      have hN : ∀ v w1, Sl w1 .u8 v (l.take k) → Calls Tryd.prog 138 #[v] w1 fun e w' => e = .returned (.int .u64 (num (l.take k))) ∧ w1 = w' := fun v w1 hs => number_any v (l.take k) w1 hs (HBy.out.take k) (by simp; omega)
      have HN := Lib.hid hN
      clear hN e4 e5 e6 e7
      by_cases h3 : num (l.take k) > most
      · have e1 : uL l 0 k most = [] := by unfold uL; rw [if_neg (by simp), if_neg h2, if_pos h3]
        have e2 : uE l 0 k most = 4 := by unfold uE; rw [if_neg (by simp), if_neg h2, if_pos h3]
        have e3 : uV l 0 k most = 0 := by unfold uV; rw [if_neg (by omega)]
        rw [e1, e2, e3]
        clear e1 e2 e3
        generalize hm : num (l.take k) = m at *
        have hb3 : decide (m > most) = true := by simp [h3]
        go_enter Tryd.func116, Tryd.ntmps116
        go_wp2_with fail
        refine HK.out.mono ?_
        rintro e w' ⟨rfl, rfl⟩
        go_wp2_with fail
        refine HX.out.mono ?_
        rintro e w1 ⟨v, rfl, h1, h2, h3⟩
        have HNN := Lib.hid (HN.out v w1 h2)
        have HF := Lib.hid (ifail_any I (l.drop k) 0 4 w1 h1)
        have H3 := Lib.hid h3
        clear h1 h2 h3
        go_wp2_with fail
        refine HNN.out.mono ?_
        rintro e w' ⟨rfl, rfl⟩
        go_wp2_with fail
        refine HF.out.mono ?_
        rintro e w2 ⟨rfl, h1, h2⟩
        have H1 := Lib.hid h1
        have H2 := Lib.hid h2
        clear h1 h2
        go_wp2_with fail
        go_ret
        exact ⟨rfl, H1.out, grown_trans H3.out H2.out⟩
      · have e1 : uL l 0 k most = l.drop k := by unfold uL; rw [if_neg (by simp), if_neg h2, if_neg h3]
        have e2 : uE l 0 k most = 0 := by unfold uE; rw [if_neg (by simp), if_neg h2, if_neg h3]
        have e3 : uV l 0 k most = num (l.take k) := by unfold uV; rw [if_pos (by omega)]
        rw [e1, e2, e3]
        clear e1 e2 e3
        generalize hm : num (l.take k) = m at *
        have hb3 : decide (m > most) = false := by simp; omega
        go_enter Tryd.func116, Tryd.ntmps116
        go_wp2_with fail
        refine HK.out.mono ?_
        rintro e w' ⟨rfl, rfl⟩
        go_wp2_with fail
        refine HX.out.mono ?_
        rintro e w1 ⟨v, rfl, h1, h2, h3⟩
        have HNN := Lib.hid (HN.out v w1 h2)
        have H1 := Lib.hid h1
        have H3 := Lib.hid h3
        clear h1 h2 h3
        go_wp2_with fail
        refine HNN.out.mono ?_
        rintro e w' ⟨rfl, rfl⟩
        go_wp2_with fail
        go_ret
        exact ⟨rfl, H1.out, H3.out⟩
  · have hb1 : (err != 0) = true := by simp [h]
    have e1 : uL l err k most = l := by unfold uL; rw [if_pos h]
    have e2 : uE l err k most = err := by unfold uE; rw [if_pos h]
    have e3 : uV l err k most = 0 := by unfold uV; rw [if_neg (by omega)]
    rw [e1, e2, e3]
    clear h e1 e2 e3 HX HK
    go_enter Tryd.func116, Tryd.ntmps116
    go_wp2_with fail
    go_ret
    exact ⟨rfl, HI.out, grown_refl _ _⟩
/-- .. of no In. -/
theorem upto_nil (k most : Int) (w : World) : Calls Tryd.prog 116 #[.pointer none, .int .i64 k, .int .u64 most] w fun e w' => e = .returned (.int .u64 0) ∧ w = w' := by
  go_enter Tryd.func116, Tryd.ntmps116
  go_wp2_with fail
  go_ret
  exact ⟨rfl, rfl⟩

theorem get_any (I : Nat) (l : List Int) (err : Int) (k : Nat) (w : World) (hI : In w I l err) (hl : l.length ≤ 1000000) (hk1 : 1 ≤ k) (hk : k ≤ 8) (hb : Bytes l) :
    Calls Tryd.prog 85 #[.pointer (some ⟨I, 0, none⟩), .int .i64 k] w fun e w' => e = .returned (.int .u64 (uV l err k 18446744073709551615)) ∧ In w' I (uL l err k 18446744073709551615) (uE l err k 18446744073709551615) ∧ w.grownBy w' (some I) := by
  have HX := Lib.hid (upto_any I l err k 18446744073709551615 w hI hl hk1 hk hb)
  clear hI hb
  go_enter Tryd.func85, Tryd.ntmps85
  go_wp2_with fail
  refine HX.out.mono ?_
  rintro e w' ⟨rfl, h1, h2⟩
  have H1 := Lib.hid h1
  have H2 := Lib.hid h2
  clear h1 h2
  go_wp2_with fail
  go_ret
  exact ⟨rfl, H1.out, H2.out⟩
theorem get_nil (k : Int) (w : World) : Calls Tryd.prog 85 #[.pointer none, .int .i64 k] w fun e w' => e = .returned (.int .u64 0) ∧ w = w' := by
  have HX := Lib.hid (upto_nil k 18446744073709551615 w)
  go_enter Tryd.func85, Tryd.ntmps85
  go_wp2_with fail
  refine HX.out.mono ?_
  rintro e w' ⟨rfl, rfl⟩
  go_wp2_with fail
  go_ret
  exact ⟨rfl, rfl⟩
theorem next_nil (n : Int) (w : World) : Calls Tryd.prog 115 #[.pointer none, .int .i64 n] w fun e w' => e = .returned (.tuple #[.slice none 0 0, .bool false]) ∧ w = w' := by
  go_enter Tryd.func115, Tryd.ntmps115
  go_wp2_with fail
  go_ret2
  exact ⟨rfl, rfl⟩

theorem err_any (I : Nat) (l : List Int) (err : Int) (w : World) (hI : In w I l err) : Calls Tryd.prog 84 #[.pointer (some ⟨I, 0, none⟩)] w fun e w' => e = .returned (.int .i64 err) ∧ w = w' := by
  obtain ⟨A, c, hB, hc, hr, ha⟩ := hI
  have c1 := hB.cell (i := 1) (v := .int .i64 err) rfl
  clear hB hr ha
  go_enter Tryd.func84, Tryd.ntmps84
  go_wp2_with fail
  go_ret
  exact ⟨rfl, rfl⟩
theorem err_nil (w : World) : Calls Tryd.prog 84 #[.pointer none] w fun e w' => e = .returned (.int .i64 2) ∧ w = w' := by
  go_enter Tryd.func84, Tryd.ntmps84
  go_wp2_with fail
  go_ret
  exact ⟨rfl, rfl⟩
theorem left_any (I : Nat) (l : List Int) (err : Int) (w : World) (hI : In w I l err) : Calls Tryd.prog 53 #[.pointer (some ⟨I, 0, none⟩)] w fun e w' => e = .returned (.int .i64 l.length) ∧ w = w' := by
  obtain ⟨A, c, hB, hc, hr, ha⟩ := hI
  have c1 := hB.cell (i := 0) (v := .slice A l.length c) rfl
  clear hB hr ha
  go_enter Tryd.func53, Tryd.ntmps53
  go_wp2_with fail
  go_ret
  exact ⟨rfl, rfl⟩

set_option maxHeartbeats 1000000 in
/-- Raw: bytes as they are. -/
theorem raw_any (I : Nat) (l : List Int) (err : Int) (n : Nat) (w : World) (hI : In w I l err) (hl : l.length ≤ 1000000) (hn : n ≤ 1000000) :
    Calls Tryd.prog 83 #[.pointer (some ⟨I, 0, none⟩), .int .i64 n] w fun e w' => ∃ v, e = .returned v ∧ In w' I (nL l err n) (nE l err n) ∧ Own w' w.heap.size 5 .u8 v (nR l err n) ∧ w.grownBy w' (some I) := by
  have HX := Lib.hid (next_any I l err n w hI hl hn)
  have h0 : decide ((n : Int) < 0) = false := by rw [decide_eq_false_iff_not]; omega
  have h1 : ((n : Int) ≤ 0) = (n = 0) := by simp
  clear hI
  have hlen : (nR l err n).length ≤ 1000000 := by
    unfold nR
    split
    · simp; omega
    · simp
  by_cases hok : nOk l err n = true
  · rw [hok] at HX
    clear hok
    go_enter Tryd.func83, Tryd.ntmps83
    go_wp2_with fail
    refine HX.out.mono ?_
    rintro e w1 ⟨v, rfl, h1, h2, h3⟩
    have HC := Lib.hid (clone_any v (nR l err n) w1 h2 hlen)
    have H1 := Lib.hid h1
    have H3 := Lib.hid h3
    clear h1 h2 h3
    go_wp2_with fail
    refine HC.out.mono ?_
    rintro e w2 ⟨u, rfl, h1, h2⟩
    have HO := Lib.hid h1
    have HB := Lib.hid h2
    clear h1 h2
    go_wp2_with fail
    go_ret
    exact ⟨_, rfl, H1.out.below HB.out, HO.out.base H3.out.size, grown_trans H3.out (grown_of_below HB.out _)⟩
  · have hok : nOk l err n = false := by simpa using hok
    have hr : nR l err n = [] := by
      unfold nOk at hok
      unfold nR
      rw [if_neg (by simpa using hok)]
    rw [hok] at HX
    rw [hr]
    clear hok hr hlen
    go_enter Tryd.func83, Tryd.ntmps83
    go_wp2_with fail
    refine HX.out.mono ?_
    rintro e w1 ⟨v, rfl, h1, h2, h3⟩
    have H1 := Lib.hid h1
    have H3 := Lib.hid h3
    clear h1 h2 h3
    go_wp2_with fail
    go_ret
    exact ⟨_, rfl, H1.out, Own.nil _ _ _ _, H3.out⟩
theorem raw_nil (n : Int) (w : World) (hn : 0 ≤ n) : Calls Tryd.prog 83 #[.pointer none, .int .i64 n] w fun e w' => e = .returned (.slice none 0 0) ∧ w = w' := by
  have HX : ∀ m : Int, Hid (Calls Tryd.prog 115 #[.pointer none, .int .i64 m] w fun e w' => e = .returned (.tuple #[.slice none 0 0, .bool false]) ∧ w = w') := fun m => Lib.hid (next_nil m w)
  go_enter Tryd.func83, Tryd.ntmps83
  go_wp2_with fail
  refine (HX _).out.mono ?_
  rintro e w' ⟨rfl, rfl⟩
  go_wp2_with fail
  go_ret
  exact ⟨rfl, rfl⟩

theorem Rd.set_other {w : World} {A : Option Addr} {l : List Int} {B : Nat} {cs : Array Value} {t : TypeId} (h : Rd w .u8 A l) (hB : Blk w B cs t) (hno : ∀ (i : Nat) (x : Int), cs[i]? ≠ some (Value.int .u8 x)) (i : Nat) (v : Value) : Rd (w.setCell ⟨B, i, none⟩ v) .u8 A l := fun hl => by
  obtain ⟨b, off, e, hlt, hc⟩ := h hl
  have hne : b ≠ B := by
    intro e2
    subst e2
    have h0 := hc 0 hl
    unfold Blk at hB
    simp [World.cell?, hB] at h0
    exact hno off _ h0
  exact ⟨b, off, e, by simpa [World.setCell] using hlt, fun j hj => ((grown_set (B := B) w i v).cell (hc j hj) (by simpa using hne))⟩
theorem In.set {w : World} {I : Nat} {l : List Int} {err : Int} {B : Nat} {cs : Array Value} {t : TypeId} (h : In w I l err) (hB : Blk w B cs t) (hno : ∀ (i : Nat) (x : Int), cs[i]? ≠ some (Value.int .u8 x)) (hBI : B ≠ I) (i : Nat) (v : Value) : In (w.setCell ⟨B, i, none⟩ v) I l err := by
  obtain ⟨A, c, hI, hc, hr, ha⟩ := h
  exact ⟨A, c, hI.other (fun e => hBI e.symm) v, hc, Rd.set_other hr hB hno i v, ha⟩

end Go.Proofs.YtlpkandfmbnlnaaDoor.Fix
