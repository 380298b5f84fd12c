/- Texts, in the form of the printed functions: what a command's test, names, kinds and numbers come to. -/
import Derived.Test.YtlpkandfmbnlnaaDoorC0
import Derived.Test.YtlpkandfmbnlnaaDoorCheck
import Derived.Test.YtlpkandfmbnlnaaDoorParse
namespace Go.Proofs.YtlpkandfmbnlnaaDoor.R
open Go.RowKit Go.Proofs.YtlpkandfmbnlnaaDoor.C Go.Proofs.YtlpkandfmbnlnaaDoorW.PrintWords Go.Proofs.YtlpkandfmbnlnaaDoorW.PrintLast Go.Proofs.YtlpkandfmbnlnaaDoorW.PrintMore
open Go.Proofs.YtlpkandfmbnlnaaDoor.Cmd Go.Proofs.YtlpkandfmbnlnaaDoor.Str Go.Proofs.YtlpkandfmbnlnaaDoor.Txt
set_option linter.unusedVariables false
def catenaryref08_Check.f (a0_0 : Int) (a0_1 : Int) (a0_2 : Int) (a0_3 : Int) : Option (Int) := if 0 ≤ a0_2 then some (chk ⟨a0_0, a0_1, a0_2, a0_3⟩) else none
theorem catenaryref08_Check.calls (a0_0 : Int) (a0_1 : Int) (a0_2 : Int) (a0_3 : Int) (r : Int) (w : World) (h : catenaryref08_Check.f a0_0 a0_1 a0_2 a0_3 = some r) :
    Calls Tryd.prog 9 #[.agg #[.int .i64 a0_0, .int .i64 a0_1, .int .u64 a0_2, .int .i64 a0_3]] w fun e w' => e = .returned (.int .i64 r) ∧ Below w.heap.size w w' := by
  unfold catenaryref08_Check.f at h
  by_cases h0 : 0 ≤ a0_2
  · rw [if_pos h0] at h
    obtain rfl := Option.some.inj h
    refine (rcheck_any ⟨a0_0, a0_1, a0_2, a0_3⟩ w h0).mono ?_
    rintro e w' ⟨rfl, rfl⟩
    exact ⟨rfl, below_alloc (Below.refl _ _) _⟩
  · rw [if_neg h0] at h
    cases h
def cmds_Check.f (a0_0 : Int) (a0_1 : Int) (a0_2 : Int) (a0_3 : Int) : Option (Int) := some (chk ⟨a0_0, a0_1, a0_2, a0_3⟩)
theorem cmds_Check.calls (a0_0 : Int) (a0_1 : Int) (a0_2 : Int) (a0_3 : Int) (r : Int) (w : World) (h : cmds_Check.f a0_0 a0_1 a0_2 a0_3 = some r) :
    Calls Tryd.prog 12 #[.agg #[.int .i64 a0_0, .int .i64 a0_1, .int .u64 a0_2, .int .i64 a0_3]] w fun e w' => e = .returned (.int .i64 r) ∧ Below w.heap.size w w' := by
  obtain rfl := Option.some.inj h
  refine (check_any ⟨a0_0, a0_1, a0_2, a0_3⟩ w).mono ?_
  rintro e w' ⟨rfl, rfl⟩
  exact ⟨rfl, below_alloc (Below.refl _ _) _⟩

/-- A text out of its bytes. -/
def bts (l : List UInt8) : ByteArray := ⟨l.toArray⟩
theorem bts_list (l : List UInt8) : (bts l).data.toList = l := by simp [bts]
def cmds_Name.f (a0 : Int) : Option (ByteArray) := some (bts (nmOf a0))
theorem cmds_Name.calls (a0 : Int) (r : ByteArray) (w : World) (h : cmds_Name.f a0 = some r) (hE_ : Go.Proofs.YtlpkandfmbnlnaaDoor.Txt.Env w := by first | exact HE.out | exact Go.Proofs.YtlpkandfmbnlnaaDoor.Txt.Env.drewN HE.out _ | (refine Go.Proofs.YtlpkandfmbnlnaaDoor.Txt.Env.below HE.out ?_; repeat (first | exact HB.out | (with_reducible first | apply below_alloc | apply pw_below_drewN | apply below_drew1) | (refine below_set ?_ (Aside0.out ?_); rotate_left; assumption)))) :
    Calls Tryd.prog 13 #[.int .i64 a0] w fun e w' => e = .returned (.string r) ∧ Drawn0 w w' := by
  obtain rfl := Option.some.inj h
  refine (name_any a0 w hE_).mono ?_
  rintro e w' ⟨rfl, rfl⟩
  exact ⟨rfl, Drawn0.refl _⟩
def cmds_Number.f (a0 : ByteArray) (a1 : Int) : Option (Int × Int) := if a0.size ≤ 281474976710656 ∧ 0 ≤ a1 ∧ a1 < 18446744073709551616 then some ((nbV a0.data.toList a1.toNat : Nat), nbE a0.data.toList a1.toNat) else none
theorem cmds_Number.calls (a0 : ByteArray) (a1 : Int) (r1 : Int) (r2 : Int) (w : World) (h : cmds_Number.f a0 a1 = some (r1, r2)) (hE_ : Go.Proofs.YtlpkandfmbnlnaaDoor.Txt.Env w := by first | exact HE.out | exact Go.Proofs.YtlpkandfmbnlnaaDoor.Txt.Env.drewN HE.out _ | (refine Go.Proofs.YtlpkandfmbnlnaaDoor.Txt.Env.below HE.out ?_; repeat (first | exact HB.out | (with_reducible first | apply below_alloc | apply pw_below_drewN | apply below_drew1) | (refine below_set ?_ (Aside0.out ?_); rotate_left; assumption)))) :
    Calls Tryd.prog 45 #[.string a0, .int .u64 a1] w fun e w' => e = .returned (.tuple #[.int .u64 r1, .int .i64 r2]) ∧ Below w.heap.size w w' := by
  unfold cmds_Number.f at h
  by_cases hc : a0.size ≤ 281474976710656 ∧ 0 ≤ a1 ∧ a1 < 18446744073709551616
  · rw [if_pos hc] at h
    have h2 := Option.some.inj h
    simp only [Prod.mk.injEq] at h2
    obtain ⟨rfl, rfl⟩ := h2
    obtain ⟨m, rfl⟩ : ∃ m : Nat, a1 = m := ⟨a1.toNat, by omega⟩
    rw [Int.toNat_natCast]
    exact number_any a0 m w hE_ hc.1 (by omega)
  · rw [if_neg hc] at h
    cases h
def strconv_Itoa.f (a0 : Int) : Option (ByteArray) := if 0 ≤ a0 ∧ a0 < 9223372036854775808 then some (bts (Lib.decDigits a0.toNat)) else none
theorem strconv_Itoa.calls (a0 : Int) (r : ByteArray) (w : World) (h : strconv_Itoa.f a0 = some r) (hE_ : Go.Proofs.YtlpkandfmbnlnaaDoor.Txt.Env w := by first | exact HE.out | exact Go.Proofs.YtlpkandfmbnlnaaDoor.Txt.Env.drewN HE.out _ | (refine Go.Proofs.YtlpkandfmbnlnaaDoor.Txt.Env.below HE.out ?_; repeat (first | exact HB.out | (with_reducible first | apply below_alloc | apply pw_below_drewN | apply below_drew1) | (refine below_set ?_ (Aside0.out ?_); rotate_left; assumption)))) :
    Calls Tryd.prog 55 #[.int .i64 a0] w fun e w' => e = .returned (.string r) ∧ Below w.heap.size w w' := by
  unfold strconv_Itoa.f at h
  by_cases hc : 0 ≤ a0 ∧ a0 < 9223372036854775808
  · rw [if_pos hc] at h
    obtain rfl := Option.some.inj h
    obtain ⟨m, rfl⟩ : ∃ m : Nat, a0 = m := ⟨a0.toNat, by omega⟩
    rw [Int.toNat_natCast]
    exact itoa_any m (by omega) w hE_
  · rw [if_neg hc] at h
    cases h
def strconv_FormatUint.f (a0 : Int) (a1 : Int) : Option (ByteArray) := if a1 = 10 ∧ 0 ≤ a0 ∧ a0 < 18446744073709551616 then some (bts (Lib.decDigits a0.toNat)) else none
theorem strconv_FormatUint.calls (a0 : Int) (a1 : Int) (r : ByteArray) (w : World) (h : strconv_FormatUint.f a0 a1 = some r) (hE_ : Go.Proofs.YtlpkandfmbnlnaaDoor.Txt.Env w := by first | exact HE.out | exact Go.Proofs.YtlpkandfmbnlnaaDoor.Txt.Env.drewN HE.out _ | (refine Go.Proofs.YtlpkandfmbnlnaaDoor.Txt.Env.below HE.out ?_; repeat (first | exact HB.out | (with_reducible first | apply below_alloc | apply pw_below_drewN | apply below_drew1) | (refine below_set ?_ (Aside0.out ?_); rotate_left; assumption)))) :
    Calls Tryd.prog 56 #[.int .u64 a0, .int .i64 a1] w fun e w' => e = .returned (.string r) ∧ Below w.heap.size w w' := by
  unfold strconv_FormatUint.f at h
  by_cases hc : a1 = 10 ∧ 0 ≤ a0 ∧ a0 < 18446744073709551616
  · rw [if_pos hc] at h
    obtain rfl := Option.some.inj h
    obtain ⟨rfl, hc⟩ := hc
    obtain ⟨m, rfl⟩ : ∃ m : Nat, a0 = m := ⟨a0.toNat, by omega⟩
    rw [Int.toNat_natCast]
    exact fmt_any m (by omega) w hE_
  · rw [if_neg hc] at h
    cases h
theorem spot_none {w : World} {a : Addr} {v : Value} (h : w.cell? a = some v) : a.spot = none := by
  unfold World.cell? at h
  split at h
  · split at h
    · cases h
    · rename_i hs
      simpa using hs
  · cases h
theorem strs_cells {w : World} {A : Option Addr} {l : List ByteArray} (h : Kd.C Kd.string w A l.length l) (h0 : 0 < l.length) : ∃ bk o, A = some ⟨bk, o, none⟩ ∧ bk < w.heap.size ∧ ∀ (j : Nat) x, l[j]? = some x → w.cell? ⟨bk, o + j, none⟩ = some (.string x) := by
  obtain ⟨ad, rfl, hc⟩ := h.2.2 h0
  have key : ∀ (j : Nat) x, l[j]? = some x → w.cell? (ad.add j) = some (.string x) := fun j x hx => by
    obtain ⟨c, hl, hr, hcell⟩ := hc j x hx
    have hr' : c = [Value.string x] := hr
    subst hr'
    have := hcell 0 (.string x) rfl
    rwa [show j * Kd.string.sz + 0 = j from by show j * 1 + 0 = j; omega] at this
  have k0 := key 0 l[0] (List.getElem?_eq_getElem h0)
  have hs : ad.spot = none := by
    have : ad.add 0 = ad := by unfold Addr.add; rw [if_pos rfl]
    rw [this] at k0
    exact spot_none k0
  obtain ⟨bk, o, sp⟩ := ad
  simp only at hs
  subst hs
  refine ⟨bk, o, rfl, ?_, fun j x hx => by rw [← Lib.add_plain]; exact key j x hx⟩
  have := World.block_lt_of_cell? w _ k0
  rwa [Lib.add_plain] at this
def strings_Join.f (a0 : List ByteArray) (a1 : ByteArray) : Option (ByteArray) := if a0.length ≤ 140737488355328 ∧ (Lib.join (a0.map (·.data.toList)) a1.data.toList).length ≤ 140737488355328 then some (bts (Lib.join (a0.map (·.data.toList)) a1.data.toList)) else none
theorem strings_Join.calls (A0 : Option Addr) (c0 : Nat) (l0 : List ByteArray) (a1 : ByteArray) (r : ByteArray) (w : World) (hr0 : Kd.C Kd.string w A0 l0.length l0) (hc0 : l0.length ≤ c0) (h : strings_Join.f l0 a1 = some r) :
    Calls Tryd.prog 54 #[.slice A0 l0.length c0, .string a1] w fun e w' => e = .returned (.string r) ∧ Below w.heap.size w w' := by
  unfold strings_Join.f at h
  by_cases hc : l0.length ≤ 140737488355328 ∧ (Lib.join (l0.map (·.data.toList)) a1.data.toList).length ≤ 140737488355328
  · rw [if_pos hc] at h
    obtain rfl := Option.some.inj h
    rcases Nat.eq_zero_or_pos l0.length with h0 | h0
    · have : l0 = [] := List.eq_nil_of_length_eq_zero h0
      subst this
      refine (Tryd.strings_Join_none A0 c0 a1 w).mono ?_
      rintro e w' ⟨rfl, rfl⟩
      exact ⟨rfl, Below.refl _ _⟩
    · obtain ⟨bk, o, rfl, hlt, hcell⟩ := strs_cells hr0 h0
      exact Tryd.strings_Join bk o c0 l0 a1 w hcell hlt hc.1 hc0 hc.2
  · rw [if_neg hc] at h
    cases h
def cmds_Parse.f (a0 : ByteArray) : Option (Int × Int × Int × Int × Int) := if a0.size < 4294967281 then some ((pRes a0.data.toList).1.kind, (pRes a0.data.toList).1.chain, (pRes a0.data.toList).1.ep, (pRes a0.data.toList).1.node, (pRes a0.data.toList).2) else none
theorem cmds_Parse.calls (a0 : ByteArray) (r1 : Int) (r2 : Int) (r3 : Int) (r4 : Int) (r5 : Int) (w : World) (h : cmds_Parse.f a0 = some (r1, r2, r3, r4, r5)) (hE_ : Go.Proofs.YtlpkandfmbnlnaaDoor.Txt.Env w := by first | exact HE.out | exact Go.Proofs.YtlpkandfmbnlnaaDoor.Txt.Env.drewN HE.out _ | (refine Go.Proofs.YtlpkandfmbnlnaaDoor.Txt.Env.below HE.out ?_; repeat (first | exact HB.out | (with_reducible first | apply below_alloc | apply pw_below_drewN | apply below_drew1) | (refine below_set ?_ (Aside0.out ?_); rotate_left; assumption)))) :
    Calls Tryd.prog 17 #[.string a0] w fun e w' => e = .returned (.tuple #[.agg #[.int .i64 r1, .int .i64 r2, .int .u64 r3, .int .i64 r4], .int .i64 r5]) ∧ Below w.heap.size w w' := by
  unfold cmds_Parse.f at h
  by_cases hc : a0.size < 4294967281
  · rw [if_pos hc] at h
    have h2 := Option.some.inj h
    simp only [Prod.mk.injEq] at h2
    obtain ⟨rfl, rfl, rfl, rfl, rfl⟩ := h2
    exact parse_any a0 w hE_ hc
  · rw [if_neg hc] at h
    cases h
end Go.Proofs.YtlpkandfmbnlnaaDoor.R
