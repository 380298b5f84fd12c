/- Plain text: words between blanks, numerals. No program in sight. -/
import Derived.Lib.ItoaNum
import Derived.Lib.Join
import Derived.Lib.SplitLaws
import Derived.Lib.IndexBytes
import Derived.Lib.ParseIntB
set_option linter.unusedVariables false
set_option linter.unusedSimpArgs false
namespace Go.Proofs.YtlpkandfmbnlnaaDoor.Str
open Go

/-! ### Words -/
/-- What stands between blanks. -/
def words : List UInt8 → List (List UInt8)
  | [] => [[]]
  | c :: r => if c = 32 then [] :: words r else ((c :: (words r).headD []) :: (words r).tail)

theorem words_ne (l : List UInt8) : words l ≠ [] := by
  cases l with
  | nil => simp [words]
  | cons c r =>
    unfold words
    split <;> simp
theorem words_cons (l : List UInt8) : ∃ w ws, words l = w :: ws := List.exists_cons_of_ne_nil (words_ne l)
theorem join_cons2 (x y : List UInt8) (r : List (List UInt8)) (sep : List UInt8) : Lib.join (x :: y :: r) sep = x ++ sep ++ Lib.join (y :: r) sep := by
  rw [Lib.join_cons, Lib.join_cons]
  simp [Lib.joinTail, List.append_assoc]
theorem join_head (c : UInt8) (x : List UInt8) (r : List (List UInt8)) (sep : List UInt8) : Lib.join ((c :: x) :: r) sep = c :: Lib.join (x :: r) sep := by
  rw [Lib.join_cons, Lib.join_cons]
  rfl
theorem join_words (l : List UInt8) : Lib.join (words l) [32] = l := by
  induction l with
  | nil => simp [words, Lib.join_one]
  | cons c r ih =>
    obtain ⟨w, ws, hw⟩ := words_cons r
    unfold words
    by_cases h : c = 32
    · rw [if_pos h, hw, join_cons2, ← hw, ih, h]
      rfl
    · rw [if_neg h, hw, join_head, List.headD_cons, List.tail_cons, ← hw, ih]
theorem words_word (x : List UInt8) (h : ∀ c, c ∈ x → c ≠ 32) (l : List UInt8) : words (x ++ 32 :: l) = x :: words l := by
  induction x with
  | nil => simp [words]
  | cons c r ih =>
    rw [List.cons_append, words, if_neg (h c (by simp)), ih (fun d hd => h d (by simp [hd]))]
    simp
theorem words_one (x : List UInt8) (h : ∀ c, c ∈ x → c ≠ 32) : words x = [x] := by
  induction x with
  | nil => rfl
  | cons c r ih =>
    rw [words, if_neg (h c (by simp)), ih (fun d hd => h d (by simp [hd]))]
    simp
theorem words_join (ws : List (List UInt8)) (h0 : ws ≠ []) (h : ∀ x, x ∈ ws → ∀ c, c ∈ x → c ≠ 32) : words (Lib.join ws [32]) = ws := by
  induction ws with
  | nil => exact absurd rfl h0
  | cons x r ih =>
    cases r with
    | nil =>
      rw [Lib.join_one]
      exact words_one x (h x (by simp))
    | cons y r =>
      rw [join_cons2, List.append_assoc, List.singleton_append, words_word x (h x (by simp)), ih (by simp) (fun z hz => h z (by simp [hz]))]
theorem words_len (l : List UInt8) : (words l).length = l.count 32 + 1 := by
  induction l with
  | nil => rfl
  | cons c r ih =>
    obtain ⟨w, ws, hw⟩ := words_cons r
    rw [hw] at ih
    unfold words
    by_cases h : c = 32
    · subst h
      rw [if_pos rfl, hw]
      simp at ih ⊢
      omega
    · rw [if_neg h, hw]
      simp at ih ⊢
      rw [List.count_cons_of_ne (by simpa using h)]
      omega
theorem words_no (l : List UInt8) : ∀ x, x ∈ words l → ∀ c, c ∈ x → c ≠ 32 := by
  induction l with
  | nil =>
    intro x hx c hc
    simp [words] at hx
    subst hx
    cases hc
  | cons a r ih =>
    obtain ⟨w, ws, hw⟩ := words_cons r
    rw [hw] at ih
    intro x hx c hc
    unfold words at hx
    by_cases h : a = 32
    · rw [if_pos h, hw] at hx
      rcases List.mem_cons.1 hx with rfl | hx
      · cases hc
      · exact ih x hx c hc
    · rw [if_neg h, hw] at hx
      simp only [List.headD_cons, List.tail_cons, List.mem_cons] at hx
      rcases hx with rfl | hx
      · rcases List.mem_cons.1 hc with rfl | hc
        · exact h
        · exact ih w (by simp) c hc
      · exact ih x (by simp [hx]) c hc

/-! ### Numerals -/
def dg (c : UInt8) : Bool := decide (48 ≤ c.toNat ∧ c.toNat ≤ 57)
/-- The number of digits, going on from acc. -/
def dvf (acc : Nat) (l : List UInt8) : Nat := l.foldl (fun n c => n * 10 + (c.toNat - 48)) acc
theorem dvf_nil (acc : Nat) : dvf acc [] = acc := by simp only [dvf, List.foldl_nil]
def dv (l : List UInt8) : Nat := dvf 0 l
/-- Digits, and how they may stand. -/
def plain (l : List UInt8) : Bool := decide (0 < l.length ∧ l.length ≤ 20) && l.all dg && !(decide (1 < l.length) && l.headD 0 == 48)

theorem dvf_cons (acc : Nat) (c : UInt8) (r : List UInt8) : dvf acc (c :: r) = dvf (acc * 10 + (c.toNat - 48)) r := by simp only [dvf, List.foldl_cons]
theorem dvf_ge (l : List UInt8) : ∀ acc, acc ≤ dvf acc l := by
  induction l with
  | nil => intro acc; rw [dvf_nil]; exact Nat.le_refl _
  | cons c r ih =>
    intro acc
    have := ih (acc * 10 + (c.toNat - 48))
    rw [dvf_cons]
    omega
theorem dvf_append (l r : List UInt8) (acc : Nat) : dvf acc (l ++ r) = dvf (dvf acc l) r := by simp only [dvf, List.foldl_append]
/-- What strconv makes of digits. -/
theorem parse_nil (M acc : Nat) : Lib.parseUintM M acc [] = .ok acc := by rw [Lib.parseUintM]
theorem parse_cons (M acc : Nat) (c : UInt8) (r : List UInt8) (hc : 48 ≤ c.toNat ∧ c.toNat ≤ 57) : Lib.parseUintM M acc (c :: r) = if 1844674407370955162 ≤ acc then .range else if M < acc * 10 + (c.toNat - 48) then .range else Lib.parseUintM M (acc * 10 + (c.toNat - 48)) r := by
  rw [Lib.parseUintM, if_pos hc]
theorem parse_digits (M : Nat) (hM : M = 18446744073709551615) : ∀ (l : List UInt8) (acc : Nat), l.all dg = true → acc ≤ M → Lib.parseUintM M acc l = if dvf acc l ≤ M then .ok (dvf acc l) else .range
  | [], acc, h, ha => by
    rw [parse_nil, dvf_nil, if_pos ha]
  | c :: r, acc, h, ha => by
    simp only [List.all_cons, Bool.and_eq_true] at h
    have hc : 48 ≤ c.toNat ∧ c.toNat ≤ 57 := by simpa [dg] using h.1
    have hge := dvf_ge r (acc * 10 + (c.toNat - 48))
    rw [parse_cons M acc c r hc, dvf_cons]
    by_cases h1 : 1844674407370955162 ≤ acc
    · rw [if_pos h1, if_neg (by omega)]
    · rw [if_neg h1]
      by_cases h2 : M < acc * 10 + (c.toNat - 48)
      · rw [if_pos h2, if_neg (by omega)]
      · rw [if_neg h2, parse_digits M hM r _ h.2 (by omega)]
theorem parse_plain (l : List UInt8) (h : plain l = true) : Lib.parseUintB 64 l = if dv l ≤ 18446744073709551615 then .ok (dv l) else .range := by
  simp only [plain, Bool.and_eq_true, decide_eq_true_eq] at h
  have hne : l ≠ [] := by intro e; rw [e] at h; simp at h
  unfold Lib.parseUintB
  rw [if_neg hne]
  have e : (2 : Nat) ^ 64 - 1 = 18446744073709551615 := by decide
  rw [e]
  exact parse_digits 18446744073709551615 rfl l 0 h.1.2 (by omega)

theorem dec_dg (u : Nat) : (Lib.decDigits u).all dg = true := by
  induction u using Nat.strongRecOn with
  | ind u ih =>
    rw [Lib.decDigits]
    split
    · rename_i h
      simp only [List.all_cons, List.all_nil, Bool.and_true, dg, decide_eq_true_eq]
      simp
      omega
    · rename_i h
      rw [List.all_append, ih (u / 10) (by omega)]
      simp only [List.all_cons, List.all_nil, Bool.and_true, Bool.true_and, dg, decide_eq_true_eq]
      simp
      omega
theorem dv_dec (u : Nat) : dv (Lib.decDigits u) = u := by
  induction u using Nat.strongRecOn with
  | ind u ih =>
    rw [Lib.decDigits]
    split
    · rename_i h
      unfold dv
      rw [dvf_cons, dvf_nil]
      simp only [UInt8.toNat_ofNat', Nat.reducePow]
      omega
    · rename_i h
      have := ih (u / 10) (by omega)
      unfold dv at this ⊢
      rw [dvf_append, this, dvf_cons, dvf_nil]
      simp only [UInt8.toNat_ofNat', Nat.reducePow]
      omega

theorem dg_val (c : UInt8) (h : dg c = true) : 48 ≤ c.toNat ∧ c.toNat ≤ 57 := by simpa [dg] using h
theorem dg_back (c : UInt8) (h : dg c = true) : UInt8.ofNat (48 + (c.toNat - 48)) = c := by
  have := dg_val c h
  rw [show 48 + (c.toNat - 48) = c.toNat by omega]
  simp
theorem dv_snoc (l : List UInt8) (c : UInt8) : dv (l ++ [c]) = dv l * 10 + (c.toNat - 48) := by
  unfold dv
  rw [dvf_append, dvf_cons, dvf_nil]
theorem dv_pos (c : UInt8) (l : List UInt8) (h : dg c = true) (h0 : c ≠ 48) : 1 ≤ dv (c :: l) := by
  unfold dv
  rw [dvf_cons]
  have := dvf_ge l (0 * 10 + (c.toNat - 48))
  have h1 := dg_val c h
  have h2 : c.toNat ≠ 48 := fun e => h0 (UInt8.toNat_inj.1 (by simpa using e))
  omega
/-- A numeral is its number's. -/
theorem dec_dv (l : List UInt8) (hne : l ≠ []) (h : l.all dg = true) (h0 : 1 < l.length → l.headD 0 ≠ 48) : Lib.decDigits (dv l) = l := by
  have : ∀ n, ∀ l : List UInt8, l.length = n → l ≠ [] → l.all dg = true → (1 < l.length → l.headD 0 ≠ 48) → Lib.decDigits (dv l) = l := by
    intro n
    induction n with
    | zero =>
      intro l hl hne
      exact absurd (List.eq_nil_of_length_eq_zero hl) hne
    | succ n ih =>
      intro l hl hne h h0
      obtain ⟨r, c, rfl⟩ : ∃ r c, l = r ++ [c] := ⟨l.dropLast, l.getLast hne, (List.dropLast_concat_getLast hne).symm⟩
      rw [List.all_append] at h
      simp only [List.all_cons, List.all_nil, Bool.and_true, Bool.and_eq_true] at h
      have hc := dg_val c h.2
      rw [dv_snoc]
      by_cases hr : r = []
      · subst hr
        have e : dv [] = 0 := by unfold dv; exact dvf_nil 0
        rw [e, Lib.decDigits, dif_pos (by omega), Nat.zero_mul, Nat.zero_add, dg_back c h.2]
        rfl
      · obtain ⟨a, r', rfl⟩ := List.exists_cons_of_ne_nil hr
        have ha : a ≠ 48 := by
          have := h0 (by simp)
          simpa using this
        have hag : dg a = true := by
          have := h.1
          simp only [List.all_cons, Bool.and_eq_true] at this
          exact this.1
        have hp := dv_pos a r' hag ha
        have hl' : (a :: r').length = n := by simp at hl ⊢; omega
        have hi := ih (a :: r') hl' (by simp) h.1 (fun _ => by simpa using ha)
        have e1 : (dv (a :: r') * 10 + (c.toNat - 48)) / 10 = dv (a :: r') := by omega
        have e2 : (dv (a :: r') * 10 + (c.toNat - 48)) % 10 = c.toNat - 48 := by omega
        rw [Lib.decDigits, dif_neg (by omega), e1, e2, hi, dg_back c h.2]
  exact this l.length l rfl hne h h0
theorem dec_ne (u : Nat) : Lib.decDigits u ≠ [] := by
  intro e
  have := Lib.decDigits_length u
  rw [e] at this
  have := Lib.nDigits_pos u
  simp at *
  omega
theorem dec_head (u : Nat) (h : 1 < (Lib.decDigits u).length) : (Lib.decDigits u).headD 0 ≠ 48 := by
  induction u using Nat.strongRecOn with
  | ind u ih =>
    by_cases hu : u < 10
    · rw [Lib.decDigits, dif_pos hu] at h
      simp at h
    · rw [Lib.decDigits, dif_neg hu]
      obtain ⟨a, r, ha⟩ := List.exists_cons_of_ne_nil (dec_ne (u / 10))
      rw [ha]
      simp only [List.cons_append, List.headD_cons]
      by_cases hl : 1 < (Lib.decDigits (u / 10)).length
      · have := ih (u / 10) (by omega) hl
        rw [ha] at this
        simpa using this
      · have h1 : u / 10 < 10 := by
          by_cases h2 : u / 10 < 10
          · exact h2
          · exfalso
            rw [Lib.decDigits, dif_neg h2] at hl
            have := List.length_pos_iff.2 (dec_ne (u / 10 / 10))
            simp at hl
            have := Lib.decDigits_length (u / 10 / 10)
            simp [hl] at this
            have := Lib.nDigits_pos (u / 10 / 10)
            omega
        rw [Lib.decDigits, dif_pos h1] at ha
        simp only [List.cons.injEq] at ha
        rw [← ha.1]
        intro e
        have := congrArg UInt8.toNat e
        simp at this
        omega
theorem plain_dec (u : Nat) (h : u < 18446744073709551616) : plain (Lib.decDigits u) = true := by
  have h1 := List.length_pos_iff.2 (dec_ne u)
  have h2 : (Lib.decDigits u).length ≤ 20 := by
    rw [Lib.decDigits_length]
    by_cases h0 : 1 ≤ u
    · have := Lib.numDigits_eq u h0 h
      split at this <;> omega
    · have : u = 0 := by omega
      subst this
      rw [Lib.nDigits_small (by omega)]
      decide
  unfold plain
  rw [dec_dg]
  by_cases hl : 1 < (Lib.decDigits u).length
  · have := dec_head u hl
    simp only [Bool.and_true, Bool.and_eq_true, decide_eq_true_eq, Bool.not_eq_true', Bool.and_eq_false_iff]
    exact ⟨⟨h1, h2⟩, .inr (by simpa using this)⟩
  · simp only [Bool.and_true, Bool.and_eq_true, decide_eq_true_eq, Bool.not_eq_true', Bool.and_eq_false_iff]
    exact ⟨⟨h1, h2⟩, .inl (by simpa using hl)⟩
theorem plain_parts (l : List UInt8) (h : plain l = true) : l ≠ [] ∧ l.all dg = true ∧ (1 < l.length → l.headD 0 ≠ 48) ∧ l.length ≤ 20 := by
  simp only [plain, Bool.and_eq_true, decide_eq_true_eq, Bool.not_eq_true', Bool.and_eq_false_iff] at h
  obtain ⟨⟨h1, h2⟩, h3⟩ := h
  refine ⟨List.length_pos_iff.1 h1.1, h2, fun hl => ?_, h1.2⟩
  rcases h3 with h3 | h3
  · simp at h3
    omega
  · simpa using h3
theorem dec_plain (l : List UInt8) (h : plain l = true) : Lib.decDigits (dv l) = l := by
  obtain ⟨h1, h2, h3, _⟩ := plain_parts l h
  exact dec_dv l h1 h2 h3
theorem dec_no32 (u : Nat) : ∀ c, c ∈ Lib.decDigits u → c ≠ 32 := by
  intro c hc e
  have := List.all_eq_true.1 (dec_dg u) c hc
  rw [e] at this
  exact absurd this (by decide)

theorem split32 (l : List UInt8) : (∀ c, c ∈ l → c ≠ 32) ∨ ∃ x r, l = x ++ 32 :: r ∧ ∀ c, c ∈ x → c ≠ 32 := by
  induction l with
  | nil => exact .inl (by simp)
  | cons a l ih =>
    by_cases h : a = 32
    · exact .inr ⟨[], l, by simp [h], by simp⟩
    · rcases ih with h1 | ⟨x, r, rfl, h1⟩
      · refine .inl fun c hc => ?_
        rcases List.mem_cons.1 hc with rfl | hc
        · exact h
        · exact h1 c hc
      · refine .inr ⟨a :: x, r, rfl, fun c hc => ?_⟩
        rcases List.mem_cons.1 hc with rfl | hc
        · exact h
        · exact h1 c hc
theorem indexByte_at (x r : List UInt8) (h : ∀ c, c ∈ x → c ≠ 32) : Lib.indexByte (x ++ 32 :: r) 32 = x.length := by
  induction x with
  | nil => simp [Lib.indexByte]
  | cons a x ih =>
    have ha := h a (by simp)
    have := ih (fun c hc => h c (by simp [hc]))
    rw [List.cons_append, Lib.indexByte, this]
    simp [ha]
/-- strings.Split at a blank: the words. -/
theorem splitK_words (l : List UInt8) : Lib.splitK [32] 0 (Lib.count l [32]) l = words l := by
  have : ∀ n, ∀ l : List UInt8, l.length ≤ n → Lib.splitK [32] 0 (Lib.count l [32]) l = words l := by
    intro n
    induction n with
    | zero =>
      intro l hl
      have : l = [] := List.eq_nil_of_length_eq_zero (by omega)
      subst this
      rfl
    | succ n ih =>
      intro l hl
      rcases split32 l with h | ⟨x, r, rfl, h⟩
      · rw [Lib.count_one, List.count_eq_zero.2 (fun hm => h 32 hm rfl), words_one l h]
        rfl
      · have hi : Lib.index (x ++ 32 :: r) [32] = x.length := by rw [Lib.index_one, indexByte_at x r h]
        have hc : Lib.count (x ++ 32 :: r) [32] = Lib.count r [32] + 1 := by
          rw [Lib.count_one, Lib.count_one, List.count_append, List.count_cons_self, List.count_eq_zero.2 (fun hm => h 32 hm rfl)]
          omega
        have hr := ih r (by simp at hl; omega)
        rw [hc, Lib.splitK, hi, words_word x h r, ← hr, if_neg (by simp)]
        simp
  exact this l.length l (Nat.le_refl _)

end Go.Proofs.YtlpkandfmbnlnaaDoor.Str
