/- The plain law of texts that are read: both programs' commands and numbers of any text are the same; a command that is read has this text. -/
import Derived.Test.YtlpkandfmbnlnaaDoorR4
import Derived.Test.YtlpkandfmbnlnaaDoorPTxt
set_option linter.unusedVariables false
set_option linter.unusedSimpArgs false
namespace Go.Proofs.YtlpkandfmbnlnaaDoor.PTxt
open Go Go.RowKit Go.Proofs.YtlpkandfmbnlnaaDoor.R Go.Proofs.YtlpkandfmbnlnaaDoorW.PrintWords Go.Proofs.YtlpkandfmbnlnaaDoorW.PrintLast Go.Proofs.YtlpkandfmbnlnaaDoorW.PrintMore
open Go.Proofs.YtlpkandfmbnlnaaDoor.Str Go.Proofs.YtlpkandfmbnlnaaDoor.Txt Go.Proofs.YtlpkandfmbnlnaaDoor.Cmd

def tup (c : C × Int) : Int × Int × Int × Int × Int := (c.1.kind, c.1.chain, c.1.ep, c.1.node, c.2)
theorem parse_f (s : ByteArray) (hs : s.size < 4294967281) : cmds_Parse.f s = some (tup (pRes s.data.toList)) := if_pos hs
theorem wrap_id (n : Int) (h0 : -9223372036854775808 ≤ n) (h1 : n < 9223372036854775808) : wrap64 n = n := by unfold wrap64; omega

/-- What is read has this text. -/
theorem kd_name (a : List UInt8) : kdOf a = -1 ∨ (0 ≤ kdOf a ∧ kdOf a ≤ 4 ∧ a = nmOf (kdOf a)) := by
  unfold kdOf
  by_cases h0 : a = nmOf 0
  · rw [if_pos h0]; exact .inr ⟨by omega, by omega, h0⟩
  rw [if_neg h0]
  by_cases h1 : a = nmOf 1
  · rw [if_pos h1]; exact .inr ⟨by omega, by omega, h1⟩
  rw [if_neg h1]
  by_cases h2 : a = nmOf 2
  · rw [if_pos h2]; exact .inr ⟨by omega, by omega, h2⟩
  rw [if_neg h2]
  by_cases h3 : a = nmOf 3
  · rw [if_pos h3]; exact .inr ⟨by omega, by omega, h3⟩
  rw [if_neg h3]
  by_cases h4 : a = nmOf 4
  · rw [if_pos h4]; exact .inr ⟨by omega, by omega, h4⟩
  rw [if_neg h4]
  exact .inl rfl
theorem kd_of_name (k : Int) (h : 0 ≤ k ∧ k ≤ 4) : kdOf (nmOf k) = k := by
  have : k = 0 ∨ k = 1 ∨ k = 2 ∨ k = 3 ∨ k = 4 := by omega
  rcases this with rfl | rfl | rfl | rfl | rfl <;> decide
theorem nbE_zero {l : List UInt8} {m : Nat} (h : nbE l m = 0) : plain l = true ∧ dv l ≤ 18446744073709551615 ∧ dv l ≤ m ∧ nbV l m = dv l := by
  unfold nbE at h
  by_cases hp : plain l = false
  · rw [if_pos hp] at h; cases h
  rw [if_neg hp] at h
  by_cases ho : nbOk l m = true
  · have h2 := ho
    simp [nbOk] at h2
    exact ⟨h2.1, h2.2.1, h2.2.2, if_pos ho⟩
  · rw [if_neg ho] at h; cases h
theorem nbE_mk {l : List UInt8} {m : Nat} (h : plain l = true) (h1 : dv l ≤ 18446744073709551615) (h2 : dv l ≤ m) : nbE l m = 0 ∧ nbV l m = dv l := by
  have ho : nbOk l m = true := by simp [nbOk, h, h1, h2]
  exact ⟨by unfold nbE; rw [if_neg (by simp [h]), if_pos ho], if_pos ho⟩
theorem pOk_spec {a b c d : List UInt8} : pOk a b c d = true ↔ plain b = true ∧ plain c = true ∧ plain d = true ∧ dv c ≤ 18446744073709551615 ∧ 1 ≤ kdOf a ∧ chk ⟨kdOf a, dv b, dv c, dv d⟩ = 0 := by
  unfold pOk
  rw [decide_eq_true_eq]
  constructor
  · rintro ⟨h1, h2, h3, h4, h5⟩
    obtain ⟨p1, _, m1, v1⟩ := nbE_zero h1
    obtain ⟨p2, q2, m2, v2⟩ := nbE_zero h2
    obtain ⟨p3, _, m3, v3⟩ := nbE_zero h3
    unfold pC at h5
    rw [v1, v2, v3] at h5
    refine ⟨p1, p2, p3, q2, ?_, h5⟩
    rcases chk_parts _ h5 with h | h
    · exact absurd (congrArg C.kind h) h4
    · exact h.1
  · rintro ⟨p1, p2, p3, q2, h4, h5⟩
    have hp : 1 ≤ kdOf a ∧ kdOf a ≤ 4 ∧ 0 ≤ (dv b : Int) ∧ (dv b : Int) ≤ 3 ∧ 1 ≤ (dv c : Int) ∧ 1 ≤ (dv d : Int) ∧ (dv d : Int) ≤ 24 := by
      rcases chk_parts _ h5 with h | h
      · have := congrArg C.kind h
        simp only [C.zero] at this
        omega
      · exact h
    obtain ⟨e1, v1⟩ := nbE_mk (m := 4) p1 (by omega) (by omega)
    obtain ⟨e2, v2⟩ := nbE_mk (m := 18446744073709551615) p2 q2 q2
    obtain ⟨e3, v3⟩ := nbE_mk (m := 24) p3 (by omega) (by omega)
    refine ⟨e1, e2, e3, by omega, ?_⟩
    unfold pC
    rw [v1, v2, v3]
    exact h5
theorem pC_of {a b c d : List UInt8} (h : pOk a b c d = true) : pC a b c d = ⟨kdOf a, dv b, dv c, dv d⟩ := by
  unfold pOk at h
  rw [decide_eq_true_eq] at h
  obtain ⟨_, _, _, v1⟩ := nbE_zero h.1
  obtain ⟨_, _, _, v2⟩ := nbE_zero h.2.1
  obtain ⟨_, _, _, v3⟩ := nbE_zero h.2.2.1
  unfold pC
  rw [v1, v2, v3]
/-- The text of four words. -/
theorem join_four (a b c d : List UInt8) : Lib.join [a, b, c, d] [32] = a ++ 32 :: (b ++ 32 :: (c ++ 32 :: d)) := by
  rw [join_cons2, join_cons2, join_cons2, Lib.join_one]
  simp
theorem txt_back {l a b c d : List UInt8} (hw : words l = [a, b, c, d]) (pb : plain b = true) (pc : plain c = true) (pd : plain d = true) (k : Int) (hk : 1 ≤ k) : txt ⟨k, dv b, dv c, dv d⟩ = l ↔ a = nmOf k := by
  have hl : l = a ++ 32 :: (b ++ 32 :: (c ++ 32 :: d)) := by rw [← join_four, ← hw, join_words]
  constructor
  · intro h
    have h2 := words_txt ⟨k, dv b, dv c, dv d⟩ hk
    rw [h, hw] at h2
    simp only [List.cons.injEq] at h2
    exact h2.1
  · rintro rfl
    unfold txt
    simp only [Int.toNat_natCast]
    rw [if_neg (by omega), dec_plain b pb, dec_plain c pc, dec_plain d pd, hl]
theorem pRes_text (l : List UInt8) : chk (pRes l).1 = 0 ∧ (pRes l).1.ep < 18446744073709551616 ∧ 0 ≤ (pRes l).1.ep ∧ ((pRes l).2 = 0 → txt (pRes l).1 = l) := by
  have z : chk C.zero = 0 := by decide
  by_cases h0 : l = nmOf 0
  · rw [pRes_noop h0]
    exact ⟨z, by decide, by decide, fun _ => h0.symm⟩
  · by_cases h4 : (words l).length = 4
    · obtain ⟨a, b, c, d, hw⟩ : ∃ a b c d, words l = [a, b, c, d] := by
        match words l, h4 with
        | [a, b, c, d], _ => exact ⟨a, b, c, d, rfl⟩
      rw [pRes_four h0 hw]
      by_cases hok : pOk a b c d = true
      · rw [if_pos hok]
        obtain ⟨p1, p2, p3, q2, h4, h5⟩ := pOk_spec.1 hok
        simp only
        rw [pC_of hok]
        refine ⟨h5, by simp only; omega, by simp only; omega, fun _ => ?_⟩
        rw [txt_back hw p1 p2 p3 _ h4]
        rcases kd_name a with h | h
        · omega
        · exact h.2.2
      · rw [if_neg hok]
        exact ⟨z, by decide, by decide, fun h => by simp at h⟩
    · rw [pRes_len h0 h4]
      exact ⟨z, by decide, by decide, fun h => by simp at h⟩

/-- The chapter's Parse. -/
theorem rparse_ev (s : ByteArray) (hs : s.size ≤ 1000000) : Ev (fun k => catenaryref08_Parse.f k s) (tup (pRes s.data.toList)) := by
  unfold catenaryref08_Parse.f
  by_cases h0 : s.data.toList = nmOf 0
  · simp only [if_pos (show s.toList = ([110, 111, 111, 112] : List UInt8) by rw [Lib.toList_data, h0]; rfl)]
    rw [pRes_noop h0]
    exact Ev.now _
  · simp only [if_neg (show ¬ s.toList = ([110, 111, 111, 112] : List UInt8) by rw [Lib.toList_data]; exact h0)]
    refine Ev.bind (words_ev s hs) ?_
    simp only [List.length_map]
    by_cases h4 : (words s.data.toList).length = 4
    · obtain ⟨a, b, c, d, hw⟩ : ∃ a b c d, words s.data.toList = [a, b, c, d] := by
        match words s.data.toList, h4 with
        | [a, b, c, d], _ => exact ⟨a, b, c, d, rfl⟩
      rw [hw]
      simp only [List.map_cons, List.map_nil, List.length_cons, List.length_nil]
      simp only [if_pos (show ((0 + 1 + 1 + 1 + 1 : Nat) : Int) = 4 by decide), if_pos (show (1 : Int) < ((0 + 1 + 1 + 1 + 1 : Nat) : Int) by decide), if_pos (show (2 : Int) < ((0 + 1 + 1 + 1 + 1 : Nat) : Int) by decide), if_pos (show (3 : Int) < ((0 + 1 + 1 + 1 + 1 : Nat) : Int) by decide)]
      rw [show rdOf ByteArray.empty [bts a, bts b, bts c, bts d] 1 = bts b from rfl, show rdOf ByteArray.empty [bts a, bts b, bts c, bts d] 2 = bts c from rfl, show rdOf ByteArray.empty [bts a, bts b, bts c, bts d] 3 = bts d from rfl]
      have e1 := number_ev (bts b) 255
      have e2 := number_ev (bts c) 18446744073709551615
      have e3 := number_ev (bts d) 255
      rw [bts_list] at e1 e2 e3
      refine Ev.bind e1 (Ev.bind e2 (Ev.bind e3 ?_))
      simp only
      rw [pRes_four h0 hw]
      have bad : pOk a b c d = false → Ev (fun k => catenaryref08_Parse.j0 k s (nbV b 255) (nbV c 18446744073709551615) (nbV d 255) true) (tup (if pOk a b c d = true then (pC a b c d, 0) else (C.zero, 4))) := fun hno => by
        rw [if_neg (by rw [hno]; simp)]
        exact Ev.step (f := fun _ => some (tup (C.zero, 4))) (fun k => by simp only [catenaryref08_Parse.j0]; rw [if_pos trivial]; rfl) (Ev.now _)
      have hno : ∀ x : List UInt8, nbE x 255 ≠ 0 → plain x = true → 255 < dv x := fun x h hp => by
        rcases Nat.lt_or_ge 255 (dv x) with h2 | h2
        · exact h2
        · exact absurd (nbE_mk (m := 255) hp (by omega) h2).1 h
      by_cases n1 : nbE b 255 = 0
      · simp only [if_pos n1]
        by_cases n2 : nbE c 18446744073709551615 = 0
        · simp only [if_pos n2]
          by_cases n3 : nbE d 255 = 0
          · rw [show (nbE d 255 != 0) = false by rw [n3]; rfl]
            obtain ⟨p1, q1, m1, v1⟩ := nbE_zero n1
            obtain ⟨p2, q2, m2, v2⟩ := nbE_zero n2
            obtain ⟨p3, q3, m3, v3⟩ := nbE_zero n3
            rw [v1, v2, v3]
            refine Ev.step (f := fun k => catenaryref08_Parse.l0 k s (dv b) (dv c) (dv d) 1) (fun k => by simp only [catenaryref08_Parse.j0]; rw [if_neg (by simp)]) ?_
            have wb : wrap64 (dv b : Int) = dv b := wrap_id _ (by omega) (by omega)
            have wd : wrap64 (dv d : Int) = dv d := wrap_id _ (by omega) (by omega)
            have loop : ∀ (m : Nat) (k : Int), k = 5 - m → m ≤ 4 → (∀ j, 1 ≤ j → j < k → ¬ (chk ⟨j, dv b, dv c, dv d⟩ = 0 ∧ a = nmOf j)) →
                Ev (fun n => catenaryref08_Parse.l0 n s (dv b) (dv c) (dv d) k) (tup (if pOk a b c d = true then (pC a b c d, 0) else (C.zero, 4))) := by
              intro m
              induction m with
              | zero =>
                intro k hk _ hall
                refine Ev.step (f := fun _ => some (tup (C.zero, 4))) (fun n => by simp only [catenaryref08_Parse.l0]; rw [if_neg (by omega)]; rfl) ?_
                have hno2 : ¬ pOk a b c d = true := fun h => by
                  obtain ⟨_, _, _, _, h4, h5⟩ := pOk_spec.1 h
                  rcases kd_name a with h6 | h6
                  · omega
                  · exact hall (kdOf a) h4 (by omega) ⟨h5, h6.2.2⟩
                rw [if_neg hno2]
                exact Ev.now _
              | succ m ih =>
                intro k hk hm hall
                have wk : wrap64 (k + 1) = k + 1 := wrap_id _ (by omega) (by omega)
                have hck : catenaryref08_Check.f k (dv b) (dv c) (dv d) = some (chk ⟨k, dv b, dv c, dv d⟩) := if_pos (by omega)
                by_cases hc : chk ⟨k, dv b, dv c, dv d⟩ = 0
                · have ht := rtext_ev ⟨k, dv b, dv c, dv d⟩ hc (by simp only; omega)
                  simp only at ht
                  refine Ev.step (f := fun n => (catenaryref08_Text.f n k (dv b) (dv c) (dv d)).bind fun t151 => (if t151.toList = s.toList then (some (k, (dv b : Int), (dv c : Int), (dv d : Int), 0)) else (catenaryref08_Parse.l0 n s (dv b) (dv c) (dv d) (k + 1)))) (fun n => by
                    simp only [catenaryref08_Parse.l0]
                    rw [if_pos (by omega), wb, wd, hck, hc, wk]
                    simp only [Option.bind_some]
                    rw [if_pos trivial]) ?_
                  refine Ev.bind ht ?_
                  rw [tol, Lib.toList_data]
                  have hb := txt_back hw p1 p2 p3 k (by omega)
                  by_cases ha : a = nmOf k
                  · simp only [if_pos (hb.2 ha)]
                    have hkd : kdOf a = k := by rw [ha]; exact kd_of_name k (by omega)
                    have hok : pOk a b c d = true := pOk_spec.2 ⟨p1, p2, p3, q2, by omega, by rw [hkd]; exact hc⟩
                    rw [if_pos hok, pC_of hok, hkd]
                    exact Ev.now _
                  · simp only [if_neg (fun h => ha (hb.1 h))]
                    exact ih (k + 1) (by omega) (by omega) (fun j h1 h2 h3 => by
                      by_cases e : j = k
                      · exact ha (by rw [← e]; exact h3.2)
                      · exact hall j h1 (by omega) h3)
                · refine Ev.step (f := fun n => catenaryref08_Parse.l0 n s (dv b) (dv c) (dv d) (k + 1)) (fun n => by
                    simp only [catenaryref08_Parse.l0]
                    rw [if_pos (by omega), wb, wd, hck, wk]
                    simp only [Option.bind_some]
                    rw [if_neg hc]) ?_
                  exact ih (k + 1) (by omega) (by omega) (fun j h1 h2 h3 => by
                    by_cases e : j = k
                    · exact hc (by rw [← e]; exact h3.1)
                    · exact hall j h1 (by omega) h3)
            exact loop 4 1 (by omega) (by omega) (fun j h1 h2 => by omega)
          · rw [show (nbE d 255 != 0) = true by rw [bne_iff_ne]; exact n3]
            refine bad ?_
            rw [Bool.eq_false_iff]
            intro h
            obtain ⟨_, _, p3, _, h4, h5⟩ := pOk_spec.1 h
            have := hno d n3 p3
            rcases chk_parts _ h5 with h | h
            · have := congrArg C.kind h
              simp only [C.zero] at this
              omega
            · simp only at h
              omega
        · simp only [if_neg n2]
          refine bad ?_
          rw [Bool.eq_false_iff]
          intro h
          obtain ⟨_, p2, _, q2, h4, h5⟩ := pOk_spec.1 h
          exact n2 (nbE_mk p2 q2 q2).1
      · simp only [if_neg n1]
        refine bad ?_
        rw [Bool.eq_false_iff]
        intro h
        obtain ⟨p1, _, _, _, h4, h5⟩ := pOk_spec.1 h
        have := hno b n1 p1
        rcases chk_parts _ h5 with h | h
        · have := congrArg C.kind h
          simp only [C.zero] at this
          omega
        · simp only at h
          omega
    · rw [pRes_len h0 h4]
      simp only [if_neg (show ¬ (((words s.data.toList).length : Nat) : Int) = 4 by omega)]
      exact Ev.now _

theorem dec1 : Lib.decDigits 1 = [49] := dec_small 1 (by decide)
theorem dec20 : Lib.decDigits 20 = [50, 48] := by rw [dec_big 20 (by decide), dec_small _ (by decide)]; rfl
theorem dec3 : Lib.decDigits 3 = [51] := dec_small 3 (by decide)
theorem awake_f : catenarylaw08_awake.f = some true := by
  unfold catenarylaw08_awake.f
  have h1 : cmds_Text.f 1 1 20 3 = some (bts (txt ⟨1, 1, 20, 3⟩), 0) := text_f ⟨1, 1, 20, 3⟩ (by decide) (by decide)
  have ht : txt ⟨1, 1, 20, 3⟩ = [114, 101, 109, 111, 118, 101, 32, 49, 32, 50, 48, 32, 51] := by
    show (if (1 : Int) = 0 then nmOf 0 else nmOf 1 ++ 32 :: (Lib.decDigits 1 ++ 32 :: (Lib.decDigits 20 ++ 32 :: Lib.decDigits 3))) = _
    rw [dec1, dec20, dec3]
    rfl
  have h2 : pRes [114, 101, 109, 111, 118, 101, 32, 49, 32, 50, 48, 32, 51] = (⟨1, 1, 20, 3⟩, 0) := by decide
  have h3 : cmds_Parse.f (⟨#[114, 101, 109, 111, 118, 101, 32, 49, 32, 50, 48, 32, 51]⟩ : ByteArray) = some (tup (⟨1, 1, 20, 3⟩, 0)) := by rw [← h2]; exact parse_f _ (by decide)
  rw [h1, h3, ht]
  simp only [Option.bind_some, tol]
  rw [if_pos trivial, if_pos trivial]
  rfl

/-- The pure law of CmdsParses. -/
theorem CmdsParses : catenarylaw08_CmdsParses.Pure := by
  intro s m hs hm
  refine Ev.rounds ?_
  unfold catenarylaw08_CmdsParses.f
  simp only [awake_f, Option.bind_some]
  by_cases h : (s.size : Int) > 100
  · simp only [if_pos h]
    exact Ev.now _
  · simp only [if_neg h]
    have hm2 : 0 ≤ m ∧ m ≤ 18446744073709551615 := by
      simp only [Lit.wf, Bool.and_eq_true, decide_eq_true_eq] at hm
      exact hm
    obtain ⟨m, rfl⟩ : ∃ n : Nat, m = n := ⟨m.toNat, by omega⟩
    rw [parse_f s (by omega)]
    simp only [Option.bind_some]
    refine Ev.bind (rparse_ev s (by omega)) ?_
    rw [show cmds_Number.f s (m : Int) = some ((nbV s.data.toList m : Int), nbE s.data.toList m) from if_pos (by omega)]
    simp only [Option.bind_some]
    refine Ev.bind (number_ev s m) ?_
    obtain ⟨c1, c2, c3, c4⟩ := pRes_text s.data.toList
    rw [show cmds_Text.f (tup (pRes s.data.toList)).1 (tup (pRes s.data.toList)).2.1 (tup (pRes s.data.toList)).2.2.1 (tup (pRes s.data.toList)).2.2.2.1 = some (bts (txt (pRes s.data.toList).1), 0) from text_f (pRes s.data.toList).1 c1 c2]
    simp only [Option.bind_some, beq_self_eq_true, Bool.and_self, if_true, tol]
    by_cases hz : (tup (pRes s.data.toList)).2.2.2.2 = 0
    · simp only [if_pos hz]
      rw [Lib.toList_data, c4 hz]
      simp only [if_true]
      exact Ev.now _
    · simp only [if_neg hz]
      exact Ev.now _

end Go.Proofs.YtlpkandfmbnlnaaDoor.PTxt
