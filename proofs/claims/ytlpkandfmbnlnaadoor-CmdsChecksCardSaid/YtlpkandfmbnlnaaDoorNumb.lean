/- The number of digits. -/
import Derived.Test.YtlpkandfmbnlnaaDoorPlain
set_option linter.unusedVariables false
set_option linter.unusedSimpArgs false
set_option maxRecDepth 100000
namespace Go.Proofs.YtlpkandfmbnlnaaDoor.Txt
open Go Go.RowKit Go.Proofs.YtlpkandfmbnlnaaDoor.Str

def nbOk (l : List UInt8) (m : Nat) : Bool := plain l && decide (dv l ≤ 18446744073709551615 ∧ dv l ≤ m)
def nbV (l : List UInt8) (m : Nat) : Nat := if nbOk l m = true then dv l else 0
def nbE (l : List UInt8) (m : Nat) : Int := if plain l = false then 4 else if nbOk l m = true then 0 else 6
theorem below_bytes (w : World) (t : TypeId) (s : ByteArray) : Below w.heap.size w (Lib.bytesWorld w t s) := Joins.below_bytesWorld _ _ _ _ (Nat.le_refl _)
set_option maxHeartbeats 1000000 in
theorem number_any (s : ByteArray) (m : Nat) (w : World) (hE : Env w) (hs : s.size ≤ 281474976710656) (hm : m < 18446744073709551616) :
    Calls Tryd.prog 45 #[.string s, .int .u64 m] w fun e w' => e = .returned (.tuple #[.int .u64 (nbV s.data.toList m), .int .i64 (nbE s.data.toList m)]) ∧ Below w.heap.size w w' := by
  have HP := Lib.hid (plain_any s w (by omega))
  have HEb := fun W (h : Below w.heap.size w W) => Lib.hid (hE.below h)
  have hpp := parse_plain s.data.toList
  generalize hl : s.data.toList = l at *
  by_cases hp : plain l = true
  · rw [hp] at HP
    by_cases h64 : dv l ≤ 18446744073709551615
    · have hok := hpp hp
      rw [if_pos h64] at hok
      have HU := fun W => Lib.hid (Tryd.strconv_ParseUint_10_at64_ok s (by omega) (dv l) (by rw [hl]; exact hok) W)
      by_cases hmm : dv l ≤ m
      · have e1 : nbOk l m = true := by simp [nbOk, hp, h64, hmm]
        have HV := Lib.hid (show nbV l m = dv l from if_pos e1)
        have HE := Lib.hid (show nbE l m = 0 by unfold nbE; rw [if_neg (by simp [hp]), if_pos e1])
        have b1 : decide (m < dv l) = false := by rw [decide_eq_false_iff_not]; omega
        clear hE hpp hp hok e1 hl hmm
        generalize dv l = d at *
        go_enter Tryd.func45, Tryd.ntmps45
        go_wp2_with fail
        refine HP.out.mono ?_
        rintro e w1 ⟨rfl, hb⟩
        have HB := Lib.hid hb
        clear hb
        go_wp2_with fail
        refine (HU _).out.mono ?_
        rintro e w2 ⟨rfl, hw⟩
        have HB2 := Lib.hid (show Below w1.heap.size w1 w2 by
          rcases hw with rfl | rfl
          · exact Below.refl _ _
          · exact below_bytes _ _ _)
        clear hw
        go_wp2_with fail
        go_ret2
        exact ⟨by rw [HV.out, HE.out]; rfl, HB.out.trans (HB2.out.mono HB.out.size)⟩
      · have e1 : nbOk l m = false := by simp [nbOk, hp, h64]; omega
        have HV := Lib.hid (show nbV l m = 0 from if_neg (by simp [e1]))
        have HE := Lib.hid (show nbE l m = 6 by unfold nbE; rw [if_neg (by simp [hp]), if_neg (by simp [e1])])
        have b1 : decide (m < dv l) = true := by rw [decide_eq_true_eq]; omega
        clear hE hpp hp hok e1 hl hmm
        generalize dv l = d at *
        go_enter Tryd.func45, Tryd.ntmps45
        go_wp2_with fail
        refine HP.out.mono ?_
        rintro e w1 ⟨rfl, hb⟩
        have HB := Lib.hid hb
        clear hb
        go_wp2_with fail
        refine (HU _).out.mono ?_
        rintro e w2 ⟨rfl, hw⟩
        have HB2 := Lib.hid (show Below w1.heap.size w1 w2 by
          rcases hw with rfl | rfl
          · exact Below.refl _ _
          · exact below_bytes _ _ _)
        clear hw
        go_wp2_with fail
        go_ret2
        exact ⟨by rw [HV.out, HE.out]; rfl, HB.out.trans (HB2.out.mono HB.out.size)⟩
    · have hok := hpp hp
      rw [if_neg h64] at hok
      have e1 : nbOk l m = false := by simp [nbOk, h64]
      have HV := Lib.hid (show nbV l m = 0 from if_neg (by simp [e1]))
      have HE := Lib.hid (show nbE l m = 6 by unfold nbE; rw [if_neg (by simp [hp]), if_neg (by simp [e1])])
      have HU : ∀ W (h : Below w.heap.size w W), Hid (Calls Tryd.prog 78 #[.string s, .int .i64 10, .int .i64 64] W fun e w' => ∃ (N : Nat) (ti : TypeId), e = .returned (.tuple #[.int .u64 18446744073709551615, .iface ti (.pointer (some ⟨N, 0, none⟩))]) ∧ Below W.heap.size W w') := fun W h => Lib.hid (by
        obtain ⟨tp, p, hr⟩ := (HEb W h).out.range
        refine (Tryd.strconv_ParseUint_10_at64_range_var s (by omega) (by rw [hl]; exact hok) tp p W hr).mono ?_
        rintro e w' ⟨N, rfl, _, _, hb⟩
        exact ⟨N, _, rfl, hb⟩)
      clear hE hpp hp hok e1 hl
      generalize dv l = d at *
      go_enter Tryd.func45, Tryd.ntmps45
      go_wp2_with fail
      refine HP.out.mono ?_
      rintro e w1 ⟨rfl, hb⟩
      have HB := Lib.hid hb
      clear hb
      go_wp2_with fail
      refine (HU _ HB.out).out.mono ?_
      rintro e w2 ⟨N, ti, rfl, hb⟩
      have HB2 := Lib.hid hb
      clear hb
      go_wp2_with fail
      go_ret2
      exact ⟨by rw [HV.out, HE.out]; rfl, HB.out.trans (HB2.out.mono HB.out.size)⟩
  · have hp0 : plain l = false := by simpa using hp
    rw [hp0] at HP
    have HV := Lib.hid (show nbV l m = 0 from if_neg (by simp [nbOk, hp0]))
    have HE := Lib.hid (show nbE l m = 4 by unfold nbE; rw [if_pos hp0])
    clear hE hpp hp hp0 hl
    go_enter Tryd.func45, Tryd.ntmps45
    go_wp2_with fail
    refine HP.out.mono ?_
    rintro e w1 ⟨rfl, hb⟩
    have HB := Lib.hid hb
    clear hb
    go_wp2_with fail
    go_ret2
    exact ⟨by rw [HV.out, HE.out]; rfl, HB.out⟩
end Go.Proofs.YtlpkandfmbnlnaaDoor.Txt
