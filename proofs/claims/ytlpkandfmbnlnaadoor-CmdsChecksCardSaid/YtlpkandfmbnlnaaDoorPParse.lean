/- The plain law of texts that are read: both programs' commands and numbers of any text are the same; a command that is read has this text. -/
import Derived.Test.YtlpkandfmbnlnaaDoorPTxt
set_option linter.unusedVariables false
set_option linter.unusedSimpArgs false
namespace Go.Proofs.YtlpkandfmbnlnaaDoor.PTxt
open Go Go.RowKit Go.Proofs.YtlpkandfmbnlnaaDoor.R Go.Proofs.YtlpkandfmbnlnaaDoorW.PrintWords Go.Proofs.YtlpkandfmbnlnaaDoorW.PrintLast Go.Proofs.YtlpkandfmbnlnaaDoorW.PrintMore
open Go.Proofs.YtlpkandfmbnlnaaDoor.Str Go.Proofs.YtlpkandfmbnlnaaDoor.Txt Go.Proofs.YtlpkandfmbnlnaaDoor.Cmd

def tup (c : C × Int) : Int × Int × Int × Int × Int := (c.1.kind, c.1.chain, c.1.ep, c.1.node, c.2)
theorem parse_f (s : ByteArray) (hs : s.size < 4294967281) : cmds_Parse.f s = some (tup (pRes s.data.toList)) := if_pos hs
theorem wrap_id (n : Int) (h0 : -9223372036854775808 ≤ n) (h1 : n < 9223372036854775808) : wrap64 n = n := by unfold wrap64; omega

/-- What is read has this text. -/
theorem kd_name (a : List UInt8) : kdOf a = -1 ∨ (0 ≤ kdOf a ∧ kdOf a ≤ 4 ∧ a = nmOf (kdOf a)) := by
  unfold kdOf
  by_cases h0 : a = nmOf 0
  · rw [if_pos h0]; exact .inr ⟨by omega, by omega, h0⟩
  rw [if_neg h0]
  by_cases h1 : a = nmOf 1
  · rw [if_pos h1]; exact .inr ⟨by omega, by omega, h1⟩
  rw [if_neg h1]
  by_cases h2 : a = nmOf 2
  · rw [if_pos h2]; exact .inr ⟨by omega, by omega, h2⟩
  rw [if_neg h2]
  by_cases h3 : a = nmOf 3
  · rw [if_pos h3]; exact .inr ⟨by omega, by omega, h3⟩
  rw [if_neg h3]
  by_cases h4 : a = nmOf 4
  · rw [if_pos h4]; exact .inr ⟨by omega, by omega, h4⟩
  rw [if_neg h4]
  exact .inl rfl
theorem kd_of_name (k : Int) (h : 0 ≤ k ∧ k ≤ 4) : kdOf (nmOf k) = k := by
  have : k = 0 ∨ k = 1 ∨ k = 2 ∨ k = 3 ∨ k = 4 := by omega
  rcases this with rfl | rfl | rfl | rfl | rfl <;> decide
theorem nbE_zero {l : List UInt8} {m : Nat} (h : nbE l m = 0) : plain l = true ∧ dv l ≤ 18446744073709551615 ∧ dv l ≤ m ∧ nbV l m = dv l := by
  unfold nbE at h
  by_cases hp : plain l = false
  · rw [if_pos hp] at h; cases h
  rw [if_neg hp] at h
  by_cases ho : nbOk l m = true
  · have h2 := ho
    simp [nbOk] at h2
    exact ⟨h2.1, h2.2.1, h2.2.2, if_pos ho⟩
  · rw [if_neg ho] at h; cases h
theorem nbE_mk {l : List UInt8} {m : Nat} (h : plain l = true) (h1 : dv l ≤ 18446744073709551615) (h2 : dv l ≤ m) : nbE l m = 0 ∧ nbV l m = dv l := by
  have ho : nbOk l m = true := by simp [nbOk, h, h1, h2]
  exact ⟨by unfold nbE; rw [if_neg (by simp [h]), if_pos ho], if_pos ho⟩
theorem pOk_spec {a b c d : List UInt8} : pOk a b c d = true ↔ plain b = true ∧ plain c = true ∧ plain d = true ∧ dv c ≤ 18446744073709551615 ∧ 1 ≤ kdOf a ∧ chk ⟨kdOf a, dv b, dv c, dv d⟩ = 0 := by
  unfold pOk
  rw [decide_eq_true_eq]
  constructor
  · rintro ⟨h1, h2, h3, h4, h5⟩
    obtain ⟨p1, _, m1, v1⟩ := nbE_zero h1
    obtain ⟨p2, q2, m2, v2⟩ := nbE_zero h2
    obtain ⟨p3, _, m3, v3⟩ := nbE_zero h3
    unfold pC at h5
    rw [v1, v2, v3] at h5
    refine ⟨p1, p2, p3, q2, ?_, h5⟩
    rcases chk_parts _ h5 with h | h
    · exact absurd (congrArg C.kind h) h4
    · exact h.1
  · rintro ⟨p1, p2, p3, q2, h4, h5⟩
    have hp : 1 ≤ kdOf a ∧ kdOf a ≤ 4 ∧ 0 ≤ (dv b : Int) ∧ (dv b : Int) ≤ 3 ∧ 1 ≤ (dv c : Int) ∧ 1 ≤ (dv d : Int) ∧ (dv d : Int) ≤ 24 := by
      rcases chk_parts _ h5 with h | h
      · have := congrArg C.kind h
        simp only [C.zero] at this
        omega
      · exact h
    obtain ⟨e1, v1⟩ := nbE_mk (m := 4) p1 (by omega) (by omega)
    obtain ⟨e2, v2⟩ := nbE_mk (m := 18446744073709551615) p2 q2 q2
    obtain ⟨e3, v3⟩ := nbE_mk (m := 24) p3 (by omega) (by omega)
    refine ⟨e1, e2, e3, by omega, ?_⟩
    unfold pC
    rw [v1, v2, v3]
    exact h5
theorem pC_of {a b c d : List UInt8} (h : pOk a b c d = true) : pC a b c d = ⟨kdOf a, dv b, dv c, dv d⟩ := by
  unfold pOk at h
  rw [decide_eq_true_eq] at h
  obtain ⟨_, _, _, v1⟩ := nbE_zero h.1
  obtain ⟨_, _, _, v2⟩ := nbE_zero h.2.1
  obtain ⟨_, _, _, v3⟩ := nbE_zero h.2.2.1
  unfold pC
  rw [v1, v2, v3]
/-- The text of four words. -/
theorem join_four (a b c d : List UInt8) : Lib.join [a, b, c, d] [32] = a ++ 32 :: (b ++ 32 :: (c ++ 32 :: d)) := by
  rw [join_cons2, join_cons2, join_cons2, Lib.join_one]
  simp
theorem txt_back {l a b c d : List UInt8} (hw : words l = [a, b, c, d]) (pb : plain b = true) (pc : plain c = true) (pd : plain d = true) (k : Int) (hk : 1 ≤ k) : txt ⟨k, dv b, dv c, dv d⟩ = l ↔ a = nmOf k := by
  have hl : l = a ++ 32 :: (b ++ 32 :: (c ++ 32 :: d)) := by rw [← join_four, ← hw, join_words]
  constructor
  · intro h
    have h2 := words_txt ⟨k, dv b, dv c, dv d⟩ hk
    rw [h, hw] at h2
    simp only [List.cons.injEq] at h2
    exact h2.1
  · rintro rfl
    unfold txt
    simp only [Int.toNat_natCast]
    rw [if_neg (by omega), dec_plain b pb, dec_plain c pc, dec_plain d pd, hl]
theorem pRes_text (l : List UInt8) : chk (pRes l).1 = 0 ∧ (pRes l).1.ep < 18446744073709551616 ∧ 0 ≤ (pRes l).1.ep ∧ ((pRes l).2 = 0 → txt (pRes l).1 = l) := by
  have z : chk C.zero = 0 := by decide
  by_cases h0 : l = nmOf 0
  · rw [pRes_noop h0]
    exact ⟨z, by decide, by decide, fun _ => h0.symm⟩
  · by_cases h4 : (words l).length = 4
    · obtain ⟨a, b, c, d, hw⟩ : ∃ a b c d, words l = [a, b, c, d] := by
        match words l, h4 with
        | [a, b, c, d], _ => exact ⟨a, b, c, d, rfl⟩
      rw [pRes_four h0 hw]
      by_cases hok : pOk a b c d = true
      · rw [if_pos hok]
        obtain ⟨p1, p2, p3, q2, h4, h5⟩ := pOk_spec.1 hok
        simp only
        rw [pC_of hok]
        refine ⟨h5, by simp only; omega, by simp only; omega, fun _ => ?_⟩
        rw [txt_back hw p1 p2 p3 _ h4]
        rcases kd_name a with h | h
        · omega
        · exact h.2.2
      · rw [if_neg hok]
        exact ⟨z, by decide, by decide, fun h => by simp at h⟩
    · rw [pRes_len h0 h4]
      exact ⟨z, by decide, by decide, fun h => by simp at h⟩

theorem dec1 : Lib.decDigits 1 = [49] := dec_small 1 (by decide)
theorem dec20 : Lib.decDigits 20 = [50, 48] := by rw [dec_big 20 (by decide), dec_small _ (by decide)]; rfl
theorem dec3 : Lib.decDigits 3 = [51] := dec_small 3 (by decide)
theorem awake_f : catenarylaw08_awake.f = some true := by
  unfold catenarylaw08_awake.f
  have h1 : cmds_Text.f 1 1 20 3 = some (bts (txt ⟨1, 1, 20, 3⟩), 0) := text_f ⟨1, 1, 20, 3⟩ (by decide) (by decide)
  have ht : txt ⟨1, 1, 20, 3⟩ = [114, 101, 109, 111, 118, 101, 32, 49, 32, 50, 48, 32, 51] := by
    show (if (1 : Int) = 0 then nmOf 0 else nmOf 1 ++ 32 :: (Lib.decDigits 1 ++ 32 :: (Lib.decDigits 20 ++ 32 :: Lib.decDigits 3))) = _
    rw [dec1, dec20, dec3]
    rfl
  have h2 : pRes [114, 101, 109, 111, 118, 101, 32, 49, 32, 50, 48, 32, 51] = (⟨1, 1, 20, 3⟩, 0) := by decide
  have h3 : cmds_Parse.f (⟨#[114, 101, 109, 111, 118, 101, 32, 49, 32, 50, 48, 32, 51]⟩ : ByteArray) = some (tup (⟨1, 1, 20, 3⟩, 0)) := by rw [← h2]; exact parse_f _ (by decide)
  rw [h1, h3, ht]
  simp only [Option.bind_some, tol]
  rw [if_pos trivial, if_pos trivial]
  rfl

end Go.Proofs.YtlpkandfmbnlnaaDoor.PTxt
