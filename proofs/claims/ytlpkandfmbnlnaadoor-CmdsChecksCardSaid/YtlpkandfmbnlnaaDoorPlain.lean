/- Which texts are digits; the number of digits. -/
import Derived.Test.YtlpkandfmbnlnaaDoorKind
import Derived.LoopTactic
set_option linter.unusedVariables false
set_option linter.unusedSimpArgs false
set_option maxRecDepth 100000
namespace Go.Proofs.YtlpkandfmbnlnaaDoor.Txt
open Go Go.RowKit Go.Proofs.YtlpkandfmbnlnaaDoor.Str

theorem plain_bad (l : List UInt8) (c : UInt8) (h : c ∈ l) (hd : ¬ (48 ≤ c.toNat ∧ c.toNat ≤ 57)) : plain l = false := by
  have h1 : l.all dg = false := by
    rw [List.all_eq_false]
    exact ⟨c, h, by simp [dg]; omega⟩
  unfold plain
  rw [h1]
  simp
theorem plain_zero (l : List UInt8) (h : 1 < l.length) (h0 : l.headD 0 = 48) : plain l = false := by
  unfold plain
  rw [h0]
  simp [h]
theorem plain_end (l : List UInt8) (h : ∀ c, c ∈ l → 48 ≤ c.toNat ∧ c.toNat ≤ 57) (h0 : ¬ (1 < l.length ∧ l.headD 0 = 48)) : plain l = decide (0 < l.length ∧ l.length ≤ 20) := by
  have h1 : l.all dg = true := by
    rw [List.all_eq_true]
    intro c hc
    have := h c hc
    simp [dg, this]
  have hx : (decide (1 < l.length) && l.headD 0 == 48) = false := by
    rw [Bool.eq_false_iff]
    intro h
    rw [Bool.and_eq_true, decide_eq_true_eq, beq_iff_eq] at h
    exact h0 h
  unfold plain
  rw [h1, hx, Bool.and_true, Bool.not_false, Bool.and_true]
theorem mem_at (s : ByteArray) (i : Nat) (h : i < s.size) : s[i]'h ∈ s.data.toList := by
  have : s[i]'h = s.data.toList[i]'(by simpa using h) := rfl
  rw [this]
  exact List.getElem_mem _
theorem take_at (s : ByteArray) (i : Nat) (h : i < s.size) : s.data.toList.take (i + 1) = s.data.toList.take i ++ [s[i]'h] := by
  rw [List.take_succ_eq_append_getElem (by simpa using h)]
  rfl
theorem head_at (s : ByteArray) (h : 0 < s.size) : s.data.toList.headD 0 = s[0]'h := by
  have key : ∀ (l : List UInt8) (hl : 0 < l.length), l.headD 0 = l[0]'hl := fun l hl => by cases l with
    | nil => simp at hl
    | cons a r => rfl
  exact key s.data.toList (by simpa using h)

theorem below_of_iter (w : World) (s : ByteArray) (pos : Nat) : Below w.heap.size w (w.iter s pos) := (Below.refl _ _).alloc (Nat.le_refl _) _
set_option maxHeartbeats 4000000 in
theorem plain_any (s : ByteArray) (w : World) (hs : s.size < 9223372036854775807) :
    Calls Tryd.prog 77 #[.string s] w fun e w' => e = .returned (.bool (plain s.data.toList)) ∧ Below w.heap.size w w' := by
  have hsz : s.data.toList.length = s.size := by simp
  go_enter Tryd.func77, Tryd.ntmps77
  go_wp2_with fail
  go_loopw [3] (fun i wr => ∃ (pos : Nat) (v : Value), pos ≤ s.size ∧ wr = w.iter s pos ∧ i = v ∧ Hid ((∀ c, c ∈ s.data.toList.take pos → 48 ≤ c.toNat ∧ c.toNat ≤ 57) ∧ (0 < pos → ¬ (1 < s.data.toList.length ∧ s.data.toList.headD 0 = 48)))) (fun _ w' => s.size - w'.iterPos w.heap.size)
  case atStart => exact ⟨0, _, by omega, rfl, rfl, by simp, by simp⟩
  case round =>
    obtain ⟨pos, v, hp0, rfl, rfl, hrel⟩ := hrel
    have HR := hrel
    clear hrel
    by_cases hp : pos < s.size
    · have hnx : ∀ ty, (Instr.next (.pointer (some ⟨w.heap.size, 0, none⟩)) true ty).run Tryd.prog (w.iter s pos) = _ := fun ty => run_next_any w s pos ty hp
      have hdec : ((s[pos]'hp).toNat < 128 ∧ (Utf8.decode s pos).1 = (s[pos]'hp).toNat ∧ (Utf8.decode s pos).2 = 1) ∨ (128 ≤ (s[pos]'hp).toNat ∧ 128 ≤ (Utf8.decode s pos).1 ∧ 1 ≤ (Utf8.decode s pos).2) := by
        by_cases ha : (s[pos]'hp).toNat < 128
        · have e := decode_ascii s pos hp ha
          exact .inl ⟨ha, by rw [e], by rw [e]⟩
        · exact .inr ⟨by omega, decode_high s pos hp (by omega)⟩
      have hmem := mem_at s pos hp
      have htk := take_at s pos hp
      have hhd := fun h0 : 0 < s.size => head_at s h0
      generalize hc : s[pos]'hp = c at *
      generalize (Utf8.decode s pos).1 = d at *
      generalize (Utf8.decode s pos).2 = n at *
      by_cases hdg : 48 ≤ d ∧ d ≤ 57
      · have hcd : c.toNat = d ∧ n = 1 := by omega
        obtain ⟨hcd, rfl⟩ := hcd
        have f1 : decide ((d : Int) < 48) = false := by rw [decide_eq_false_iff_not]; omega
        have f2 : decide ((d : Int) > 57) = false := by rw [decide_eq_false_iff_not]; omega
        have HT := Lib.hid (show ∀ x, x ∈ s.data.toList.take (pos + 1) → 48 ≤ x.toNat ∧ x.toNat ≤ 57 from by
          rw [htk]
          intro x hx
          rcases List.mem_append.1 hx with h | h
          · exact HR.out.1 x h
          · rw [List.mem_singleton.1 h]; omega)
        by_cases hz : pos = 0
        · subst hz
          have hh := hhd hp
          rw [hc] at hh
          by_cases hzz : d = 48 ∧ 1 < s.size
          · obtain ⟨rfl, h1⟩ := hzz
            have f3 : decide (((s.size : Nat) : Int) > 1) = true := by rw [decide_eq_true_eq]; omega
            have HP := Lib.hid (plain_zero s.data.toList (by rw [hsz]; exact h1) (by rw [hh]; exact UInt8.toNat_inj.1 hcd))
            clear hdec hmem htk hhd hc hdg hcd hh HT HR h1
            go_wp2_with fail
            go_ret
            exact ⟨by rw [HP.out]; rfl, below_of_iter w s _⟩
          · have hnz : ¬ (1 < s.data.toList.length ∧ s.data.toList.headD 0 = 48) := by
              rw [hsz, hh]
              rintro ⟨h1, h2⟩
              exact hzz ⟨by rw [← hcd, h2]; rfl, h1⟩
            have HN := Lib.hid hnz
            by_cases h48 : d = 48
            · subst h48
              have f3 : decide (((s.size : Nat) : Int) > 1) = false := by rw [decide_eq_false_iff_not]; omega
              clear hdec hmem htk hhd hc hdg hcd hh HR hzz hnz
              go_wp2_with fail
              go_roundw
              case rel => exact ⟨1, _, by omega, rfl, rfl, HT.out, fun _ => HN.out⟩
              case measure => simp; omega
            · have f3 : ((d : Int) == 48) = false := by simp; omega
              clear hdec hmem htk hhd hc hdg hcd hh HR hzz hnz
              go_wp2_with fail
              go_roundw
              case rel => exact ⟨1, _, by omega, rfl, rfl, HT.out, fun _ => HN.out⟩
              case measure => simp; omega
        · have f3 : ((pos : Int) == 0) = false := by simp; omega
          have HN := Lib.hid (HR.out.2 (by omega))
          clear hdec hmem htk hhd hc hdg hcd HR hz
          go_wp2_with fail
          go_roundw
          case rel => exact ⟨pos + 1, _, by omega, rfl, rfl, HT.out, fun _ => HN.out⟩
          case measure => simp; omega
      · have HP := Lib.hid (plain_bad s.data.toList c hmem (by omega))
        by_cases h48 : d < 48
        · have f1 : decide ((d : Int) < 48) = true := by rw [decide_eq_true_eq]; omega
          clear hdec hmem htk hhd hc hdg HR h48
          go_wp2_with fail
          go_ret
          exact ⟨by rw [HP.out]; rfl, below_of_iter w s _⟩
        · have f1 : decide ((d : Int) < 48) = false := by rw [decide_eq_false_iff_not]; omega
          have f2 : decide ((d : Int) > 57) = true := by rw [decide_eq_true_eq]; omega
          clear hdec hmem htk hhd hc hdg HR h48
          go_wp2_with fail
          go_ret
          exact ⟨by rw [HP.out]; rfl, below_of_iter w s _⟩
    · have hnx : ∀ ty, (Instr.next (.pointer (some ⟨w.heap.size, 0, none⟩)) true ty).run Tryd.prog (w.iter s pos) = _ := fun ty => run_next_end w s pos ty hp
      have hps : pos = s.size := by omega
      subst hps
      have hall := HR.out.1
      rw [← hsz, List.take_length] at hall
      by_cases h0 : 0 < s.size
      · have HP := Lib.hid (plain_end s.data.toList hall (HR.out.2 h0))
        rw [hsz] at HP
        clear hall HR
        by_cases h20 : s.size ≤ 20
        · have f1 : decide (0 < s.size ∧ s.size ≤ 20) = true := by simp [h0, h20]
          rw [f1] at HP
          have f2 : decide (((s.size : Nat) : Int) ≤ 20) = true := by rw [decide_eq_true_eq]; omega
          clear f1 h20
          go_wp2_with fail
          go_ret
          exact ⟨by rw [HP.out]; rfl, below_of_iter w s _⟩
        · have f1 : decide (0 < s.size ∧ s.size ≤ 20) = false := by simp [h20]
          rw [f1] at HP
          have f2 : decide (((s.size : Nat) : Int) ≤ 20) = false := by rw [decide_eq_false_iff_not]; omega
          clear f1 h20
          go_wp2_with fail
          go_ret
          exact ⟨by rw [HP.out]; rfl, below_of_iter w s _⟩
      · have HP := Lib.hid (plain_end s.data.toList hall (by rw [hsz]; omega))
        rw [hsz] at HP
        have f1 : decide (0 < s.size ∧ s.size ≤ 20) = false := by simp [h0]
        rw [f1] at HP
        clear hall HR f1
        go_wp2_with fail
        go_ret
        exact ⟨by rw [HP.out]; rfl, below_of_iter w s _⟩
end Go.Proofs.YtlpkandfmbnlnaaDoor.Txt
