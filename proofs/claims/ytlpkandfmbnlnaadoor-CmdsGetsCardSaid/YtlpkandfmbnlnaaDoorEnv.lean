/- What the world's tables hold; the text of a number; a kind's name; which texts are digits. -/
import Derived.Test.YtlpkandfmbnlnaaDoorRows
import Derived.Test.YtlpkandfmbnlnaaDoorShelf
import Derived.Test.YtlpkandfmbnlnaaDoorStr
import Derived.WalkKit
import Derived.Handy
import Derived.Lib.AppendIntMem
import Derived.Lib.SmallJoins
import Derived.Lib.RuneCount
import Derived.Lib.ItoaMem
import Derived.Laws.RangeString
import Derived.Laws.RangeAny
import Derived.Laws.Rows
import Derived.WalkSpells
import Derived.FnData
import Derived.KernelRfl
import Derived.Lib.Hide
set_option linter.unusedVariables false
set_option linter.unusedSimpArgs false
set_option maxRecDepth 100000
namespace Go.Proofs.YtlpkandfmbnlnaaDoor.Txt
open Go Go.RowKit Go.Proofs.YtlpkandfmbnlnaaDoor.Str

/-- The kinds' names. -/
def nmC : Array Value := #[.string ⟨#[110, 111, 111, 112]⟩, .string ⟨#[114, 101, 109, 111, 118, 101]⟩, .string ⟨#[97, 112, 112, 101, 110, 100]⟩, .string ⟨#[112, 114, 111, 109, 111, 116, 101]⟩, .string ⟨#[115, 101, 116, 116, 108, 101]⟩]
/-- What the package-level variables hold. -/
structure Env (w : World) : Prop where
  names : w.var? Tryd.prog "catenary/cmds.names" = some nmC
  pow : Lib.TabIs Tryd.prog w "internal/strconv.uint64pow10" .u64 Lib.pow10Tab
  range : ∃ tp p, w.var? Tryd.prog "strconv.ErrRange" = some #[.iface tp p]
  most : ∃ m, w.cell? ⟨4, 0, none⟩ = some (.int .i64 m)
theorem gNames : Tryd.prog.globalNamed "catenary/cmds.names" = some 0 := by kernel_rfl
theorem gPow : Tryd.prog.globalNamed "internal/strconv.uint64pow10" = some 1 := by kernel_rfl
theorem gRange : Tryd.prog.globalNamed "strconv.ErrRange" = some 3 := by kernel_rfl
theorem Env.below {w w' : World} (h : Env w) (hb : Below w.heap.size w w') : Env w' := by
  obtain ⟨tp, p, hr⟩ := h.range
  obtain ⟨m, hm⟩ := h.most
  exact ⟨Joins.var_stays gNames h.names hb (Nat.le_refl _), Joins.var_stays gPow h.pow hb (Nat.le_refl _), ⟨tp, p, Joins.var_stays gRange hr hb (Nat.le_refl _)⟩, ⟨m, (hb.cell (World.block_lt_of_cell? w _ hm)).trans hm⟩⟩

theorem Env.drewN {w : World} (h : Env w) (n : Nat) : Env (w.drewN n) := h.below (Joins.below_draws _ _ _)

/-! ### FormatUint at base 10 -/
theorem below_grow1 (w : World) (k : Nat) (os : Array Obj) : Below w.heap.size w (Sort.grow (w.drewN k) os) := Lib.below_grow w.heap.size w (Nat.le_refl _) k os
theorem holds_zero0 (w : World) (T : TypeId) (nd : Nat) (hs : nd ≤ 24) : Sort.Holds (fun (b : UInt8) => Value.int .u8 (b.toNat : Int)) (w.alloc (.cells Lib.zeros24 T)) w.heap.size 0 (Array.replicate nd (0 : UInt8)) := fun j hj => by
  have hj' : j < nd := by simpa using hj
  refine ⟨?_, World.frozen?_alloc_new _ _ _ _⟩
  rw [World.cell?_alloc_new, Lib.zeros24_at _ (by omega), getElem!_pos _ j hj]
  simp
theorem fin0 (w : World) (o : Obj) (dk : Array UInt8) (k : Nat) : ∃ os, (Sort.putRow (fun (b : UInt8) => Value.int .u8 (b.toNat : Int)) (w.alloc o) w.heap.size 0 dk).drewN k = Sort.grow (w.drewN k) os := by
  rw [Sort.alloc_eq_grow]
  obtain ⟨os', _, e⟩ := Sort.putRow_grow_new (fun (b : UInt8) => Value.int .u8 (b.toNat : Int)) w #[o] w.heap.size 0 dk (Nat.le_refl _)
  exact ⟨os', by rw [e]; rfl⟩

set_option maxHeartbeats 6400000 in
theorem ifmt_any (u : Nat) (hu64 : u < 18446744073709551616) (w : World) (hE : Env w) :
    Calls Tryd.prog 90 #[.int .u64 u, .int .i64 10] w fun e w' => e = .returned (.string ⟨(Lib.decDigits u).toArray⟩) ∧ Below w.heap.size w w' := by
  by_cases hi : u < 100
  · have b1 : decide ((u : Int) < 100) = true := by rw [decide_eq_true_eq]; omega
    have hw : IntKind.i64.wrap (u : Int) = (u : Int) := by rw [IntKind.wrap_i64]; omega
    have HS := fun W => Lib.hid (Tryd.internal_strconv_small u hi W)
    clear hE
    go_enter Tryd.func90, Tryd.ntmps90
    go_wp2_with fail
    refine (HS _).out.mono ?_
    rintro e w' ⟨rfl, rfl⟩
    go_wp2_with fail
    go_ret
    exact ⟨rfl, Below.refl _ _⟩
  · have b1 : decide ((u : Int) < 100) = false := by rw [decide_eq_false_iff_not]; omega
    have hu1 : 1 ≤ u := by omega
    have hnd20 : Lib.nDigits u ≤ 20 := by have := Lib.numDigits_eq u hu1 hu64; split at this <;> omega
    have hal : Tryd.prog.arrayLen 141 = 24 := by kernel_rfl
    have hsl1 : ∀ W, (Instr.sliceAt 141 (.pointer (some ⟨w.heap.size, 0, none⟩)) none (some (.int .i64 (Lib.nDigits u : Int))) none).run Tryd.prog W = .ok (.slice (some ⟨w.heap.size, 0, none⟩) (Lib.nDigits u) 24) W := fun W => by
      rw [run_sliceAt_array_h W 141 ⟨w.heap.size, 0, none⟩ (by kernel_rfl) .i64 (Lib.nDigits u : Int) (by omega) (by rw [hal]; omega)]
      go_simp
    have hH0 := holds_zero0 w 141 (Lib.nDigits u) (by omega)
    have hfmt := Tryd.internal_strconv_formatBase10 w.heap.size 0 24 u (Array.replicate (Lib.nDigits u) 0) (w.alloc (.cells Lib.zeros24 141)) hH0 (by rw [Array.size_replicate]; exact Lib.lt_pow_nDigits u) hu64 (by rw [Array.size_replicate]; omega)
    rw [Array.size_replicate] at hfmt
    have HH0 := Lib.hid hH0
    have HF := Lib.hid hfmt
    have HP := Lib.hid (Lib.tabIs_alloc hE.pow (.cells Lib.zeros24 141))
    clear hH0 hal hfmt hE
    go_enter Tryd.func90, Tryd.ntmps90
    go_wp2_with fail
    refine (Tryd.internal_strconv_numDigits u hu1 hu64 _ HP.out).mono ?_
    rintro e w' ⟨rfl, rfl⟩
    go_wp2_with fail
    refine HF.out.mono ?_
    rintro e w' ⟨rfl, k, v', dk, rfl, hF⟩
    have hcv : (convert 27 9 (.slice (some ⟨w.heap.size, 0, none⟩) (Lib.nDigits u) 24)).run Tryd.prog ((Sort.putRow (fun (b : UInt8) => Value.int .u8 (b.toNat : Int)) (w.alloc (.cells Lib.zeros24 141)) w.heap.size 0 dk).drewN k) = .ok (.string ⟨(Lib.decDigits u).toArray⟩) ((Sort.putRow (fun (b : UInt8) => Value.int .u8 (b.toNat : Int)) (w.alloc (.cells Lib.zeros24 141)) w.heap.size 0 dk).drewN k) := by
      have h := run_convert_bytes_back (P := Tryd.prog) ((Sort.putRow (fun (b : UInt8) => Value.int .u8 (b.toNat : Int)) (w.alloc (.cells Lib.zeros24 141)) w.heap.size 0 dk).drewN k) 27 9 5 ⟨w.heap.size, 0, none⟩ 24 (Lib.decDigits u) Tryd.underlying27 Tryd.underlying5 Tryd.underlying9 (fun j hj => by
        rw [Lib.row_is_numeral hF j hj, Lib.add_plain, World.cell?_drewN]
        exact Sort.cell?_putRow (fun (b : UInt8) => Value.int .u8 (b.toNat : Int)) _ w.heap.size 0 _ dk HH0.out (by rw [hF.size, Array.size_replicate]) j (by rw [hF.size]; rw [Lib.decDigits_length] at hj; exact hj))
      rw [Lib.decDigits_length] at h
      exact h
    have HFi := Lib.hid hF
    clear hF
    go_wp2_with fail
    go_ret
    obtain ⟨os, eo⟩ := fin0 w (.cells Lib.zeros24 141) dk k
    exact ⟨rfl, by rw [eo]; exact below_grow1 w k os⟩
theorem fmt_any (u : Nat) (hu64 : u < 18446744073709551616) (w : World) (hE : Env w) :
    Calls Tryd.prog 56 #[.int .u64 u, .int .i64 10] w fun e w' => e = .returned (.string ⟨(Lib.decDigits u).toArray⟩) ∧ Below w.heap.size w w' := by
  have H := Lib.hid (ifmt_any u hu64 w hE)
  clear hE
  go_enter Tryd.func56, Tryd.ntmps56
  go_wp2_with fail
  refine H.out.mono ?_
  rintro e w' ⟨rfl, hb⟩
  have HB := Lib.hid hb
  clear hb
  go_wp2_with fail
  go_ret
  exact ⟨rfl, HB.out⟩
theorem itoa_any (u : Nat) (hu : u < 9223372036854775808) (w : World) (hE : Env w) :
    Calls Tryd.prog 55 #[.int .i64 u] w fun e w' => e = .returned (.string ⟨(Lib.decDigits u).toArray⟩) ∧ Below w.heap.size w w' := by
  refine (Tryd.strconv_Itoa u (by omega) (by omega) w hE.pow).mono ?_
  rintro e w' ⟨rfl, k, os, rfl⟩
  rw [Lib.itoa_nonneg]
  exact ⟨rfl, below_grow1 w k os⟩

/-! ### names and kinds -/
def nmOf (k : Int) : List UInt8 := if k = 0 then [110, 111, 111, 112] else if k = 1 then [114, 101, 109, 111, 118, 101] else if k = 2 then [97, 112, 112, 101, 110, 100] else if k = 3 then [112, 114, 111, 109, 111, 116, 101] else if k = 4 then [115, 101, 116, 116, 108, 101] else []
theorem name_any (k : Int) (w : World) (hE : Env w) :
    Calls Tryd.prog 13 #[.int .i64 k] w fun e w' => e = .returned (.string ⟨(nmOf k).toArray⟩) ∧ w = w' := by
  have hc : ∀ i v, nmC[i]? = some v → w.cell? ⟨0, i, none⟩ = some v := fun i v h => by rw [World.var?_cell gNames hE.names i]; exact h
  have c0 := hc 0 _ rfl
  have c1 := hc 1 _ rfl
  have c2 := hc 2 _ rfl
  have c3 := hc 3 _ rfl
  have c4 := hc 4 _ rfl
  clear hc hE
  by_cases h0 : k < 0
  · have b0 : decide (k < 0) = true := by simp [h0]
    have hn : nmOf k = [] := by unfold nmOf; repeat rw [if_neg (by omega)]
    rw [hn]
    clear hn
    go_enter Tryd.func13, Tryd.ntmps13
    go_wp2_with fail
    go_ret
    exact ⟨rfl, rfl⟩
  · by_cases h5 : k ≥ 5
    · have b0 : decide (k < 0) = false := by simp; omega
      have b5 : decide (k ≥ 5) = true := by simp; omega
      have hn : nmOf k = [] := by unfold nmOf; repeat rw [if_neg (by omega)]
      rw [hn]
      clear hn
      go_enter Tryd.func13, Tryd.ntmps13
      go_wp2_with fail
      go_ret
      exact ⟨rfl, rfl⟩
    · have hk : k = 0 ∨ k = 1 ∨ k = 2 ∨ k = 3 ∨ k = 4 := by omega
      clear h0 h5
      rcases hk with rfl | rfl | rfl | rfl | rfl
      all_goals (
        go_enter Tryd.func13, Tryd.ntmps13
        go_wp2_with fail
        go_ret
        exact ⟨rfl, rfl⟩)

end Go.Proofs.YtlpkandfmbnlnaaDoor.Txt
