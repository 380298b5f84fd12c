/- The plain laws of texts: digits, words, numbers, a command's text, read back. No memory in it. The plain law of texts that are read: both programs' commands and numbers of any text are the same; a command that is read has this text. -/
import Derived.Test.YtlpkandfmbnlnaaDoorR2
import Derived.Test.YtlpkandfmbnlnaaDoorGTxt
set_option linter.unusedVariables false
set_option linter.unusedSimpArgs false
namespace Go.Proofs.YtlpkandfmbnlnaaDoor.PTxt
open Go Go.RowKit Go.Proofs.YtlpkandfmbnlnaaDoor.R Go.Proofs.YtlpkandfmbnlnaaDoorW.PrintWords Go.Proofs.YtlpkandfmbnlnaaDoorW.PrintLast Go.Proofs.YtlpkandfmbnlnaaDoorW.PrintMore
open Go.Proofs.YtlpkandfmbnlnaaDoor.Str Go.Proofs.YtlpkandfmbnlnaaDoor.Txt Go.Proofs.YtlpkandfmbnlnaaDoor.Cmd

theorem bts_of (s : ByteArray) : s = bts s.data.toList := rfl
theorem bts_app (a b : List UInt8) : bts a ++ bts b = bts (a ++ b) := by
  apply ByteArray.ext
  simp [bts]
theorem bts_inj {a b : List UInt8} (h : bts a = bts b) : a = b := by rw [← bts_list a, h, bts_list]
theorem bts_size (l : List UInt8) : (bts l).size = l.length := by simp [bts, ByteArray.size]
theorem tol (l : List UInt8) : (bts l).toList = l := by rw [Lib.toList_data, bts_list]
theorem ofnum (n : Nat) (h : n < 256) : strOfNums [(n : Int)] = bts [UInt8.ofNat n] := by
  simp [strOfNums, bts]
theorem u64_in (n : Int) (h0 : 0 ≤ n) (h1 : n < 18446744073709551616) : IntKind.u64.wrap n = n := by rw [IntKind.wrap_u64]; omega
theorem dec_small (n : Nat) (h : n < 10) : Lib.decDigits n = [UInt8.ofNat (48 + n)] := by rw [Lib.decDigits, dif_pos h]
theorem dec_big (n : Nat) (h : ¬ n < 10) : Lib.decDigits n = Lib.decDigits (n / 10) ++ [UInt8.ofNat (48 + n % 10)] := by rw [Lib.decDigits, dif_neg h]
theorem dec_len (n : Nat) (h : n < 18446744073709551616) : (Lib.decDigits n).length ≤ 20 := (plain_parts _ (plain_dec n h)).2.2.2

theorem Ev.step2 {α : Type} {g f : Nat → Option α} {r : α} (h : ∀ k, g (k + 1 + 1) = f k) (k : Ev f r) : Ev g r :=
  Ev.step (f := fun k => g (k + 1)) (fun _ => rfl) (Ev.step h k)
/-! ### digits -/
theorem digits_ev (n : Nat) : n < 18446744073709551616 → Ev (fun k => catenaryref08_Digits.f k (n : Int)) (bts (Lib.decDigits n)) := by
  induction n using Nat.strongRecOn with
  | _ n ih =>
  intro hn
  by_cases h : n < 10
  · refine Ev.step (f := fun _ => some (bts (Lib.decDigits n))) (fun k => ?_) (Ev.now _)
    simp only [catenaryref08_Digits.f]
    rw [if_pos (by omega), dec_small n h, u64_in _ (by omega) (by omega)]
    have e : ((48 + (n : Int)) % 256) = ((48 + n : Nat) : Int) := by omega
    rw [e, ofnum _ (by omega)]
  · have i1 := ih (n / 10) (by omega) (by omega)
    have i2 := ih (n % 10) (by omega) (by omega)
    have e1 : IntKind.u64.wrap (Int.tdiv (n : Int) 10) = ((n / 10 : Nat) : Int) := by
      rw [Int.tdiv_eq_ediv_of_nonneg (by omega), u64_in _ (by omega) (by omega)]
      omega
    have e2 : Int.tmod (n : Int) 10 = ((n % 10 : Nat) : Int) := by
      rw [Int.tmod_eq_emod_of_nonneg (by omega)]
      omega
    have l1 := dec_len (n / 10) (by omega)
    have l2 := dec_len (n % 10) (by omega)
    refine Ev.step (f := fun k => (catenaryref08_Digits.f k ((n / 10 : Nat) : Int)).bind fun t123 => ((catenaryref08_Digits.f k ((n % 10 : Nat) : Int)).bind fun t124 => (if t123.size + t124.size ≤ 9223372036854775807 then (some (t123 ++ t124)) else (none)))) (fun k => ?_) ?_
    · simp only [catenaryref08_Digits.f]
      rw [if_neg (by omega), e1, e2]
    · refine Ev.bind i1 (Ev.bind i2 ?_)
      rw [bts_size, bts_size, if_pos (by omega), bts_app, dec_small (n % 10) (by omega), ← dec_big n h]
      exact Ev.now _

/-! ### words -/
/-- The words of what is left, the first of them begun already. -/
def wres (w r : List UInt8) : List (List UInt8) := match words r with
  | h :: t => (w ++ h) :: t
  | [] => []
theorem wres_nil (w : List UInt8) : wres w [] = [w] := by simp [wres, words]
theorem wres_blank (w r : List UInt8) : wres w (32 :: r) = w :: wres [] r := by
  obtain ⟨h, t, e⟩ := words_cons r
  simp [wres, words, e]
theorem wres_char (w r : List UInt8) (c : UInt8) (hc : ¬ c = 32) : wres w (c :: r) = wres (w ++ [c]) r := by
  obtain ⟨h, t, e⟩ := words_cons r
  simp [wres, words, e, hc]
theorem bt_lt (s : ByteArray) (i : Nat) (h : i < s.data.toList.length) : bt s (i : Int) = ((s.data.toList[i]).toNat : Int) := by
  have hs : i < s.size := by simpa using h
  unfold bt
  rw [Int.toNat_natCast, dif_pos hs]
  rfl
theorem words_l0 (s : ByteArray) (hs : s.size ≤ 1000000) : ∀ (d i : Nat) (done : List ByteArray) (w : List UInt8), i + d = s.data.toList.length → done.length ≤ i → w.length ≤ i →
    Ev (fun k => catenaryref08_Words.l0 k s done (bts w) (i : Int)) (done ++ (wres w (s.data.toList.drop i)).map bts) := by
  have hlen : s.data.toList.length = s.size := by simp
  intro d
  induction d with
  | zero =>
    intro i done w hi hd hw
    refine Ev.step (f := fun _ => some (done ++ (wres w (s.data.toList.drop i)).map bts)) (fun k => ?_) (Ev.now _)
    simp only [catenaryref08_Words.l0]
    rw [if_neg (by omega), if_pos (by omega), List.drop_eq_nil_of_le (by omega), wres_nil]
    rfl
  | succ d ih =>
    intro i done w hi hd hw
    have hlt : i < s.data.toList.length := by omega
    have hdr : s.data.toList.drop i = s.data.toList[i] :: s.data.toList.drop (i + 1) := List.drop_eq_getElem_cons hlt
    have hwr : wrap64 ((i : Int) + 1) = ((i + 1 : Nat) : Int) := by unfold wrap64; omega
    have hb := bt_lt s i hlt
    by_cases hc : s.data.toList[i] = 32
    · refine Ev.step (f := fun k => catenaryref08_Words.l0 k s (done ++ [bts w]) (bts []) ((i + 1 : Nat) : Int)) (fun k => ?_) ?_
      · simp only [catenaryref08_Words.l0]
        rw [if_pos (by omega), if_pos (by omega), hb, hc, if_pos (by decide), if_pos (by omega), hwr]
        rfl
      · have := ih (i + 1) (done ++ [bts w]) [] (by omega) (by simp; omega) (by simp)
        rw [hdr, hc, wres_blank]
        simpa using this
    · have hx : (s.data.toList[i]).toNat ≠ 32 := fun e => hc (UInt8.toNat_inj.1 e)
      have hex : s.extract ((i : Int)).toNat (((i + 1 : Nat) : Int)).toNat = bts [s.data.toList[i]] := by
        rw [Int.toNat_natCast, Int.toNat_natCast]
        refine bts_of _ |>.trans (congrArg bts ?_)
        rw [ByteArray.data_extract, Array.toList_extract, List.extract_eq_take_drop]
        rw [Nat.add_sub_cancel_left, hdr]
        rfl
      refine Ev.step (f := fun k => catenaryref08_Words.l0 k s done (bts (w ++ [s.data.toList[i]])) ((i + 1 : Nat) : Int)) (fun k => ?_) ?_
      · simp only [catenaryref08_Words.l0]
        rw [if_pos (by omega), if_pos (by omega), hb, if_neg (by omega), hwr, if_pos (by omega), if_pos (by omega), hex, bts_size, bts_size, if_pos (by simp; omega), bts_app]
      · have := ih (i + 1) done (w ++ [s.data.toList[i]]) (by omega) (by omega) (by simp; omega)
        rw [hdr, wres_char _ _ _ hc]
        exact this
theorem words_ev (s : ByteArray) (hs : s.size ≤ 1000000) : Ev (fun k => catenaryref08_Words.f k s) ((words s.data.toList).map bts) := by
  have := words_l0 s hs s.data.toList.length 0 [] [] (by omega) (by simp) (by simp)
  have e : wres [] (s.data.toList.drop 0) = words s.data.toList := by
    obtain ⟨h, t, e⟩ := words_cons s.data.toList
    simp [wres, e]
  rw [e] at this
  rw [List.nil_append] at this
  exact this

/-! ### numbers -/
theorem dv_take (l : List UInt8) (i : Nat) (h : i < l.length) : dv (l.take (i + 1)) = dv (l.take i) * 10 + ((l[i]).toNat - 48) := by
  rw [List.take_succ_eq_append_getElem h, dv_snoc]
theorem dv_mono (l : List UInt8) (i : Nat) : dv (l.take i) ≤ dv l := by
  have e : l = l.take i ++ l.drop i := (List.take_append_drop i l).symm
  have : dv (l.take i ++ l.drop i) = dvf (dv (l.take i)) (l.drop i) := dvf_append _ _ _
  rw [← e] at this
  rw [this]
  exact dvf_ge _ _
theorem number_l0 (s : ByteArray) (m : Nat) (hs : s.size ≤ 20) (h0 : 0 < s.size) (hz : ¬ (1 < s.data.toList.length ∧ s.data.toList.headD 0 = 48)) : ∀ (d i n : Nat) (over : Bool), i + d = s.data.toList.length →
    (∀ c, c ∈ s.data.toList.take i → 48 ≤ c.toNat ∧ c.toNat ≤ 57) → n ≤ 18446744073709551615 → (if over = true then 18446744073709551615 < dv (s.data.toList.take i) else n = dv (s.data.toList.take i)) →
    Ev (fun k => catenaryref08_Number.l0 k s (m : Int) (n : Int) over (i : Int)) ((nbV s.data.toList m : Int), nbE s.data.toList m) := by
  have hlen : s.data.toList.length = s.size := by simp
  intro d
  induction d with
  | zero =>
    intro i n over hi hdg hn hst
    refine Ev.step (f := fun _ => some ((nbV s.data.toList m : Int), nbE s.data.toList m)) (fun k => ?_) (Ev.now _)
    simp only [catenaryref08_Number.l0]
    rw [if_neg (by omega)]
    have hil : i = s.data.toList.length := by omega
    rw [hil, List.take_length] at hst hdg
    have hp : plain s.data.toList = true := by rw [plain_end _ hdg hz]; simp; omega
    cases over with
    | true =>
      rw [if_pos rfl]
      rw [if_pos rfl] at hst
      have h1 : nbOk s.data.toList m = false := by simp [nbOk]; omega
      unfold nbV nbE
      rw [h1, hp]
      rfl
    | false =>
      rw [if_neg (by simp)]
      rw [if_neg (by simp)] at hst
      by_cases hm : n ≤ m
      · have h1 : nbOk s.data.toList m = true := by simp [nbOk, hp]; omega
        rw [if_neg (by omega)]
        unfold nbV nbE
        rw [h1, hp, hst]
        rfl
      · have h1 : nbOk s.data.toList m = false := by simp [nbOk]; omega
        rw [if_pos (by omega)]
        unfold nbV nbE
        rw [h1, hp]
        rfl
  | succ d ih =>
    intro i n over hi hdg hn hst
    have hlt : i < s.data.toList.length := by omega
    have hwr : wrap64 ((i : Int) + 1) = ((i + 1 : Nat) : Int) := by unfold wrap64; omega
    have hb := bt_lt s i hlt
    have hdt := dv_take s.data.toList i hlt
    have hmem : s.data.toList[i] ∈ s.data.toList := List.getElem_mem _
    have htk : s.data.toList.take (i + 1) = s.data.toList.take i ++ [s.data.toList[i]] := List.take_succ_eq_append_getElem hlt
    generalize hc : s.data.toList[i] = c at *
    by_cases hd : 48 ≤ c.toNat ∧ c.toNat ≤ 57
    · have hdg2 : ∀ x, x ∈ s.data.toList.take (i + 1) → 48 ≤ x.toNat ∧ x.toNat ≤ 57 := by
        rw [htk]
        intro x hx
        rcases List.mem_append.1 hx with h | h
        · exact hdg x h
        · rw [List.mem_singleton.1 h]; exact hd
      have e1 : ((c.toNat : Int) - 48) % 256 = ((c.toNat - 48 : Nat) : Int) := by omega
      have key : ∀ k, catenaryref08_Number.l0 (k + 1 + 1) s (m : Int) (n : Int) over (i : Int) = if (n : Int) > ((18446744073709551615 - ((c.toNat - 48 : Nat) : Int)) / 10) then (catenaryref08_Number.l0 k s (m : Int) (n : Int) true ((i + 1 : Nat) : Int)) else (catenaryref08_Number.l0 k s (m : Int) ((10 * n + (c.toNat - 48) : Nat) : Int) over ((i + 1 : Nat) : Int)) := fun k => by
        simp only [catenaryref08_Number.l0]
        rw [if_pos (by omega), if_pos (by omega), hb, if_neg (by omega)]
        rw [show decide (((c.toNat : Nat) : Int) > 57) = false by rw [decide_eq_false_iff_not]; omega]
        simp only [catenaryref08_Number.j2]
        rw [if_neg (by simp), if_pos (by omega), if_pos (by omega), hb, e1, hwr]
        by_cases hov : (n : Int) > ((18446744073709551615 - ((c.toNat - 48 : Nat) : Int)) / 10)
        · rw [if_pos hov, if_pos hov]
        · rw [if_neg hov, if_neg hov]
          congr 1
          rw [u64_in (10 * (n : Int)) (by omega) (by omega), u64_in _ (by omega) (by omega)]
          omega
      by_cases hov : (n : Int) > ((18446744073709551615 - ((c.toNat - 48 : Nat) : Int)) / 10)
      · exact Ev.step2 (fun k => (key k).trans (if_pos hov)) (ih (i + 1) n true (by omega) hdg2 hn (by
            rw [if_pos rfl, hdt]
            cases over with
            | true => rw [if_pos rfl] at hst; omega
            | false => rw [if_neg (by simp)] at hst; omega))
      · exact Ev.step2 (fun k => (key k).trans (if_neg hov)) (ih (i + 1) (10 * n + (c.toNat - 48)) over (by omega) hdg2 (by omega) (by
            cases over with
            | true => rw [if_pos rfl] at hst ⊢; rw [hdt]; omega
            | false => rw [if_neg (by simp)] at hst ⊢; rw [hdt]; omega))
    · have hp : plain s.data.toList = false := plain_bad _ c hmem hd
      have key : ∀ k, catenaryref08_Number.l0 (k + 1 + 1) s (m : Int) (n : Int) over (i : Int) = some (0, 4) := fun k => by
        simp only [catenaryref08_Number.l0]
        rw [if_pos (by omega), if_pos (by omega), hb]
        by_cases h48 : ((c.toNat : Nat) : Int) < 48
        · rw [if_pos h48]
          simp only [catenaryref08_Number.j2]
          rw [if_pos trivial]
        · rw [if_neg h48, show decide (((c.toNat : Nat) : Int) > 57) = true by rw [decide_eq_true_eq]; omega]
          simp only [catenaryref08_Number.j2]
          rw [if_pos trivial]
      have hr : ((nbV s.data.toList m : Int), nbE s.data.toList m) = (0, 4) := by
        unfold nbV nbE nbOk
        rw [hp]
        rfl
      rw [hr]
      exact Ev.step2 key (Ev.now _)
theorem number_ev (s : ByteArray) (m : Nat) : Ev (fun k => catenaryref08_Number.f k s (m : Int)) ((nbV s.data.toList m : Int), nbE s.data.toList m) := by
  have hlen : s.data.toList.length = s.size := by simp
  have bad : plain s.data.toList = false → ((nbV s.data.toList m : Int), nbE s.data.toList m) = (0, 4) := fun hp => by
    unfold nbV nbE nbOk
    rw [hp]
    rfl
  have jt : Ev (fun k => catenaryref08_Number.j0 k s (m : Int) true) (0, 4) := Ev.step (f := fun _ => some (0, 4)) (fun k => by simp only [catenaryref08_Number.j0]; rw [if_pos trivial]) (Ev.now _)
  unfold catenaryref08_Number.f
  by_cases h1 : (s.size : Int) < 1
  · simp only [if_pos h1]
    rw [bad (by unfold plain; rw [show decide (0 < s.data.toList.length ∧ s.data.toList.length ≤ 20) = false by rw [decide_eq_false_iff_not]; omega]; rfl)]
    exact jt
  · simp only [if_neg h1]
    by_cases h2 : (s.size : Int) > 20
    · simp only [if_pos h2]
      rw [bad (by unfold plain; rw [show decide (0 < s.data.toList.length ∧ s.data.toList.length ≤ 20) = false by rw [decide_eq_false_iff_not]; omega]; rfl)]
      exact jt
    · simp only [if_neg h2]
      have go : ¬ (1 < s.data.toList.length ∧ s.data.toList.headD 0 = 48) → Ev (fun k => catenaryref08_Number.j0 k s (m : Int) false) ((nbV s.data.toList m : Int), nbE s.data.toList m) := fun hz => by
        refine Ev.step (f := fun k => catenaryref08_Number.l0 k s (m : Int) ((0 : Nat) : Int) false ((0 : Nat) : Int)) (fun k => by simp only [catenaryref08_Number.j0]; rw [if_neg (by simp)]; rfl) ?_
        exact number_l0 s m (by omega) (by omega) hz s.data.toList.length 0 0 false (by omega) (by simp) (by omega) (by simp [dv, dvf])
      by_cases h3 : (s.size : Int) > 1
      · simp only [if_pos h3, if_pos (show 0 < (s.size : Int) by omega)]
        have hb := bt_lt s 0 (by omega)
        have hh : s.data.toList.headD 0 = s.data.toList[0]'(by omega) := by
          have key : ∀ (l : List UInt8) (hl : 0 < l.length), l.headD 0 = l[0]'hl := fun l hl => by cases l with
            | nil => simp at hl
            | cons a r => rfl
          exact key _ _
        rw [show ((0 : Nat) : Int) = 0 from rfl, ← hh] at hb
        by_cases h4 : s.data.toList.headD 0 = 48
        · rw [hb, h4]
          rw [bad (plain_zero _ (by omega) h4)]
          exact jt
        · have e : (bt s 0 == 48) = false := by
            rw [hb, beq_eq_false_iff_ne]
            intro e
            apply h4
            apply UInt8.toNat_inj.1
            have : (48 : UInt8).toNat = 48 := rfl
            omega
          rw [e]
          exact go (fun h => h4 h.2)
      · simp only [if_neg h3]
        exact go (by omega)

/-! ### a command's text -/
def txt (c : C) : List UInt8 := if c.kind = 0 then nmOf 0 else nmOf c.kind ++ 32 :: (Lib.decDigits c.chain.toNat ++ 32 :: (Lib.decDigits c.ep.toNat ++ 32 :: Lib.decDigits c.node.toNat))
theorem name_len (k : Int) : (nmOf k).length ≤ 7 := by
  unfold nmOf
  repeat' split
  all_goals simp
theorem rname_f (k : Int) : catenaryref08_Name.f k = some (bts (nmOf k)) := by
  unfold catenaryref08_Name.f nmOf
  by_cases h0 : k = 0
  · rw [if_pos h0, if_pos h0]; rfl
  rw [if_neg h0, if_neg h0]
  by_cases h1 : k = 1
  · rw [if_pos h1, if_pos h1]; rfl
  rw [if_neg h1, if_neg h1]
  by_cases h2 : k = 2
  · rw [if_pos h2, if_pos h2]; rfl
  rw [if_neg h2, if_neg h2]
  by_cases h3 : k = 3
  · rw [if_pos h3, if_pos h3]; rfl
  rw [if_neg h3, if_neg h3]
  by_cases h4 : k = 4
  · rw [if_pos h4, if_pos h4]; rfl
  rw [if_neg h4, if_neg h4]
  rfl
theorem chk_parts (c : C) (h : chk c = 0) : c = C.zero ∨ (1 ≤ c.kind ∧ c.kind ≤ 4 ∧ 0 ≤ c.chain ∧ c.chain ≤ 3 ∧ 1 ≤ c.ep ∧ 1 ≤ c.node ∧ c.node ≤ 24) := by
  obtain ⟨k, a, e, n⟩ := c
  unfold chk at h
  simp only at h ⊢
  by_cases h1 : k < 0 ∨ k ≥ 5
  · rw [if_pos h1] at h; cases h
  rw [if_neg h1] at h
  by_cases h2 : k = 0
  · rw [if_pos h2] at h
    by_cases h3 : a = 0 ∧ e = 0 ∧ n = 0
    · exact .inl (by obtain ⟨rfl, rfl, rfl⟩ := h3; subst h2; rfl)
    · rw [if_neg h3] at h; cases h
  rw [if_neg h2] at h
  by_cases h3 : a < 0 ∨ a ≥ 4 ∨ e < 1 ∨ n < 1 ∨ n > 24
  · rw [if_pos h3] at h; cases h
  · exact .inr (by omega)
theorem chk_mk (k a e n : Int) (h : 1 ≤ k ∧ k ≤ 4 ∧ 0 ≤ a ∧ a ≤ 3 ∧ 1 ≤ e ∧ 1 ≤ n ∧ n ≤ 24) : chk ⟨k, a, e, n⟩ = 0 := by
  unfold chk
  simp only
  rw [if_neg (by omega), if_neg (by omega), if_neg (by omega)]
/-- cmds.Text. -/
theorem text_f (c : C) (h : chk c = 0) (he : c.ep < 18446744073709551616) : cmds_Text.f c.kind c.chain c.ep c.node = some (bts (txt c), 0) := by
  unfold cmds_Text.f
  rw [show cmds_Check.f c.kind c.chain c.ep c.node = some (chk c) from rfl, h]
  simp only [Option.bind_some]
  rw [if_pos trivial]
  rcases chk_parts c h with rfl | hp
  · rfl
  · rw [if_neg (by omega)]
    have n1 := name_len c.kind
    have d1 := dec_len c.chain.toNat (by omega)
    have d2 := dec_len c.ep.toNat (by omega)
    have d3 := dec_len c.node.toNat (by omega)
    have hj : Lib.join [nmOf c.kind, Lib.decDigits c.chain.toNat, Lib.decDigits c.ep.toNat, Lib.decDigits c.node.toNat] [32] = txt c := by
      rw [join_cons2, join_cons2, join_cons2, Lib.join_one]
      unfold txt
      rw [if_neg (by omega)]
      simp
    have hl : (txt c).length ≤ 200 := by
      unfold txt
      rw [if_neg (by omega)]
      simp
      omega
    rw [show cmds_Name.f c.kind = some (bts (nmOf c.kind)) from rfl, show strconv_Itoa.f c.chain = some (bts (Lib.decDigits c.chain.toNat)) from if_pos (by omega), show strconv_FormatUint.f c.ep 10 = some (bts (Lib.decDigits c.ep.toNat)) from if_pos (by omega), show strconv_Itoa.f c.node = some (bts (Lib.decDigits c.node.toNat)) from if_pos (by omega)]
    simp only [Option.bind_some]
    rw [show strings_Join.f [bts (nmOf c.kind), bts (Lib.decDigits c.chain.toNat), bts (Lib.decDigits c.ep.toNat), bts (Lib.decDigits c.node.toNat)] (⟨#[32]⟩ : ByteArray) = some (bts (txt c)) by
      have e1 : ([bts (nmOf c.kind), bts (Lib.decDigits c.chain.toNat), bts (Lib.decDigits c.ep.toNat), bts (Lib.decDigits c.node.toNat)] : List ByteArray).map (·.data.toList) = [nmOf c.kind, Lib.decDigits c.chain.toNat, Lib.decDigits c.ep.toNat, Lib.decDigits c.node.toNat] := by simp [bts_list]
      unfold strings_Join.f
      rw [e1, show (⟨#[32]⟩ : ByteArray).data.toList = [32] from rfl, hj, if_pos ⟨by simp, by omega⟩]]
    rfl
/-- The chapter's. -/
theorem rtext_ev (c : C) (h : chk c = 0) (he : c.ep < 18446744073709551616) : Ev (fun k => catenaryref08_Text.f k c.kind c.chain c.ep c.node) (bts (txt c)) := by
  unfold catenaryref08_Text.f
  rcases chk_parts c h with rfl | hp
  · exact Ev.now _
  · simp only [if_neg (show ¬ c.kind = 0 by omega), rname_f, Option.bind_some]
    have n1 := name_len c.kind
    have d1 := dec_len c.chain.toNat (by omega)
    have d2 := dec_len c.ep.toNat (by omega)
    have d3 := dec_len c.node.toNat (by omega)
    have g1 := digits_ev c.chain.toNat (by omega)
    have g2 := digits_ev c.ep.toNat (by omega)
    have g3 := digits_ev c.node.toNat (by omega)
    have ht : bts (txt c) = ((((bts (nmOf c.kind) ++ (⟨#[32]⟩ : ByteArray)) ++ bts (Lib.decDigits c.chain.toNat)) ++ (⟨#[32]⟩ : ByteArray)) ++ bts (Lib.decDigits c.ep.toNat)) ++ (⟨#[32]⟩ : ByteArray) ++ bts (Lib.decDigits c.node.toNat) := by
      rw [show (⟨#[32]⟩ : ByteArray) = bts [32] from rfl, bts_app, bts_app, bts_app, bts_app, bts_app, bts_app]
      congr 1
      unfold txt
      rw [if_neg (by omega)]
      simp
    rw [ht]
    have z : (⟨#[32]⟩ : ByteArray).size = 1 := rfl
    have e1 : ((c.chain.toNat : Nat) : Int) = c.chain := by omega
    have e2 : ((c.ep.toNat : Nat) : Int) = c.ep := by omega
    have e3 : ((c.node.toNat : Nat) : Int) = c.node := by omega
    rw [e1] at g1
    rw [e2] at g2
    rw [e3] at g3
    simp only [u64_in c.chain (by omega) (by omega), u64_in c.node (by omega) (by omega)]
    simp only [if_pos (show (bts (nmOf c.kind)).size + 1 ≤ 9223372036854775807 by rw [bts_size]; omega)]
    refine Ev.bind g1 ?_
    simp only [if_pos (show (bts (nmOf c.kind) ++ (⟨#[32]⟩ : ByteArray)).size + (bts (Lib.decDigits c.chain.toNat)).size ≤ 9223372036854775807 by rw [ByteArray.size_append, bts_size, bts_size, z]; omega),
      if_pos (show (bts (nmOf c.kind) ++ (⟨#[32]⟩ : ByteArray) ++ bts (Lib.decDigits c.chain.toNat)).size + 1 ≤ 9223372036854775807 by rw [ByteArray.size_append, ByteArray.size_append, bts_size, bts_size, z]; omega)]
    refine Ev.bind g2 ?_
    simp only [if_pos (show (bts (nmOf c.kind) ++ (⟨#[32]⟩ : ByteArray) ++ bts (Lib.decDigits c.chain.toNat) ++ (⟨#[32]⟩ : ByteArray)).size + (bts (Lib.decDigits c.ep.toNat)).size ≤ 9223372036854775807 by rw [ByteArray.size_append, ByteArray.size_append, ByteArray.size_append, bts_size, bts_size, bts_size, z]; omega),
      if_pos (show (bts (nmOf c.kind) ++ (⟨#[32]⟩ : ByteArray) ++ bts (Lib.decDigits c.chain.toNat) ++ (⟨#[32]⟩ : ByteArray) ++ bts (Lib.decDigits c.ep.toNat)).size + 1 ≤ 9223372036854775807 by rw [ByteArray.size_append, ByteArray.size_append, ByteArray.size_append, ByteArray.size_append, bts_size, bts_size, bts_size, z]; omega)]
    refine Ev.bind g3 ?_
    simp only [if_pos (show (bts (nmOf c.kind) ++ (⟨#[32]⟩ : ByteArray) ++ bts (Lib.decDigits c.chain.toNat) ++ (⟨#[32]⟩ : ByteArray) ++ bts (Lib.decDigits c.ep.toNat) ++ (⟨#[32]⟩ : ByteArray)).size + (bts (Lib.decDigits c.node.toNat)).size ≤ 9223372036854775807 by rw [ByteArray.size_append, ByteArray.size_append, ByteArray.size_append, ByteArray.size_append, ByteArray.size_append, bts_size, bts_size, bts_size, bts_size, z]; omega)]
    exact Ev.now _
theorem name_no32 (k : Int) : ∀ c, c ∈ nmOf k → c ≠ 32 := by
  unfold nmOf
  repeat' split
  all_goals decide
/-- The words of a text. -/
theorem words_txt (c : C) (h : 1 ≤ c.kind) : words (txt c) = [nmOf c.kind, Lib.decDigits c.chain.toNat, Lib.decDigits c.ep.toNat, Lib.decDigits c.node.toNat] := by
  unfold txt
  rw [if_neg (by omega), words_word _ (name_no32 _), words_word _ (dec_no32 _), words_word _ (dec_no32 _), words_one _ (dec_no32 _)]

end Go.Proofs.YtlpkandfmbnlnaaDoor.PTxt

namespace Go.Proofs.YtlpkandfmbnlnaaDoor.PTxt
open Go Go.RowKit Go.Proofs.YtlpkandfmbnlnaaDoor.R Go.Proofs.YtlpkandfmbnlnaaDoorW.PrintWords Go.Proofs.YtlpkandfmbnlnaaDoorW.PrintLast Go.Proofs.YtlpkandfmbnlnaaDoorW.PrintMore
open Go.Proofs.YtlpkandfmbnlnaaDoor.Str Go.Proofs.YtlpkandfmbnlnaaDoor.Txt Go.Proofs.YtlpkandfmbnlnaaDoor.Cmd

def tup (c : C × Int) : Int × Int × Int × Int × Int := (c.1.kind, c.1.chain, c.1.ep, c.1.node, c.2)
theorem parse_f (s : ByteArray) (hs : s.size < 4294967281) : cmds_Parse.f s = some (tup (pRes s.data.toList)) := if_pos hs
theorem wrap_id (n : Int) (h0 : -9223372036854775808 ≤ n) (h1 : n < 9223372036854775808) : wrap64 n = n := by unfold wrap64; omega

/-- What is read has this text. -/
theorem kd_name (a : List UInt8) : kdOf a = -1 ∨ (0 ≤ kdOf a ∧ kdOf a ≤ 4 ∧ a = nmOf (kdOf a)) := by
  unfold kdOf
  by_cases h0 : a = nmOf 0
  · rw [if_pos h0]; exact .inr ⟨by omega, by omega, h0⟩
  rw [if_neg h0]
  by_cases h1 : a = nmOf 1
  · rw [if_pos h1]; exact .inr ⟨by omega, by omega, h1⟩
  rw [if_neg h1]
  by_cases h2 : a = nmOf 2
  · rw [if_pos h2]; exact .inr ⟨by omega, by omega, h2⟩
  rw [if_neg h2]
  by_cases h3 : a = nmOf 3
  · rw [if_pos h3]; exact .inr ⟨by omega, by omega, h3⟩
  rw [if_neg h3]
  by_cases h4 : a = nmOf 4
  · rw [if_pos h4]; exact .inr ⟨by omega, by omega, h4⟩
  rw [if_neg h4]
  exact .inl rfl
theorem kd_of_name (k : Int) (h : 0 ≤ k ∧ k ≤ 4) : kdOf (nmOf k) = k := by
  have : k = 0 ∨ k = 1 ∨ k = 2 ∨ k = 3 ∨ k = 4 := by omega
  rcases this with rfl | rfl | rfl | rfl | rfl <;> decide
theorem nbE_zero {l : List UInt8} {m : Nat} (h : nbE l m = 0) : plain l = true ∧ dv l ≤ 18446744073709551615 ∧ dv l ≤ m ∧ nbV l m = dv l := by
  unfold nbE at h
  by_cases hp : plain l = false
  · rw [if_pos hp] at h; cases h
  rw [if_neg hp] at h
  by_cases ho : nbOk l m = true
  · have h2 := ho
    simp [nbOk] at h2
    exact ⟨h2.1, h2.2.1, h2.2.2, if_pos ho⟩
  · rw [if_neg ho] at h; cases h
theorem nbE_mk {l : List UInt8} {m : Nat} (h : plain l = true) (h1 : dv l ≤ 18446744073709551615) (h2 : dv l ≤ m) : nbE l m = 0 ∧ nbV l m = dv l := by
  have ho : nbOk l m = true := by simp [nbOk, h, h1, h2]
  exact ⟨by unfold nbE; rw [if_neg (by simp [h]), if_pos ho], if_pos ho⟩
theorem pOk_spec {a b c d : List UInt8} : pOk a b c d = true ↔ plain b = true ∧ plain c = true ∧ plain d = true ∧ dv c ≤ 18446744073709551615 ∧ 1 ≤ kdOf a ∧ chk ⟨kdOf a, dv b, dv c, dv d⟩ = 0 := by
  unfold pOk
  rw [decide_eq_true_eq]
  constructor
  · rintro ⟨h1, h2, h3, h4, h5⟩
    obtain ⟨p1, _, m1, v1⟩ := nbE_zero h1
    obtain ⟨p2, q2, m2, v2⟩ := nbE_zero h2
    obtain ⟨p3, _, m3, v3⟩ := nbE_zero h3
    unfold pC at h5
    rw [v1, v2, v3] at h5
    refine ⟨p1, p2, p3, q2, ?_, h5⟩
    rcases chk_parts _ h5 with h | h
    · exact absurd (congrArg C.kind h) h4
    · exact h.1
  · rintro ⟨p1, p2, p3, q2, h4, h5⟩
    have hp : 1 ≤ kdOf a ∧ kdOf a ≤ 4 ∧ 0 ≤ (dv b : Int) ∧ (dv b : Int) ≤ 3 ∧ 1 ≤ (dv c : Int) ∧ 1 ≤ (dv d : Int) ∧ (dv d : Int) ≤ 24 := by
      rcases chk_parts _ h5 with h | h
      · have := congrArg C.kind h
        simp only [C.zero] at this
        omega
      · exact h
    obtain ⟨e1, v1⟩ := nbE_mk (m := 4) p1 (by omega) (by omega)
    obtain ⟨e2, v2⟩ := nbE_mk (m := 18446744073709551615) p2 q2 q2
    obtain ⟨e3, v3⟩ := nbE_mk (m := 24) p3 (by omega) (by omega)
    refine ⟨e1, e2, e3, by omega, ?_⟩
    unfold pC
    rw [v1, v2, v3]
    exact h5
theorem pC_of {a b c d : List UInt8} (h : pOk a b c d = true) : pC a b c d = ⟨kdOf a, dv b, dv c, dv d⟩ := by
  unfold pOk at h
  rw [decide_eq_true_eq] at h
  obtain ⟨_, _, _, v1⟩ := nbE_zero h.1
  obtain ⟨_, _, _, v2⟩ := nbE_zero h.2.1
  obtain ⟨_, _, _, v3⟩ := nbE_zero h.2.2.1
  unfold pC
  rw [v1, v2, v3]
/-- The text of four words. -/
theorem join_four (a b c d : List UInt8) : Lib.join [a, b, c, d] [32] = a ++ 32 :: (b ++ 32 :: (c ++ 32 :: d)) := by
  rw [join_cons2, join_cons2, join_cons2, Lib.join_one]
  simp
theorem txt_back {l a b c d : List UInt8} (hw : words l = [a, b, c, d]) (pb : plain b = true) (pc : plain c = true) (pd : plain d = true) (k : Int) (hk : 1 ≤ k) : txt ⟨k, dv b, dv c, dv d⟩ = l ↔ a = nmOf k := by
  have hl : l = a ++ 32 :: (b ++ 32 :: (c ++ 32 :: d)) := by rw [← join_four, ← hw, join_words]
  constructor
  · intro h
    have h2 := words_txt ⟨k, dv b, dv c, dv d⟩ hk
    rw [h, hw] at h2
    simp only [List.cons.injEq] at h2
    exact h2.1
  · rintro rfl
    unfold txt
    simp only [Int.toNat_natCast]
    rw [if_neg (by omega), dec_plain b pb, dec_plain c pc, dec_plain d pd, hl]
theorem pRes_text (l : List UInt8) : chk (pRes l).1 = 0 ∧ (pRes l).1.ep < 18446744073709551616 ∧ 0 ≤ (pRes l).1.ep ∧ ((pRes l).2 = 0 → txt (pRes l).1 = l) := by
  have z : chk C.zero = 0 := by decide
  by_cases h0 : l = nmOf 0
  · rw [pRes_noop h0]
    exact ⟨z, by decide, by decide, fun _ => h0.symm⟩
  · by_cases h4 : (words l).length = 4
    · obtain ⟨a, b, c, d, hw⟩ : ∃ a b c d, words l = [a, b, c, d] := by
        match words l, h4 with
        | [a, b, c, d], _ => exact ⟨a, b, c, d, rfl⟩
      rw [pRes_four h0 hw]
      by_cases hok : pOk a b c d = true
      · rw [if_pos hok]
        obtain ⟨p1, p2, p3, q2, h4, h5⟩ := pOk_spec.1 hok
        simp only
        rw [pC_of hok]
        refine ⟨h5, by simp only; omega, by simp only; omega, fun _ => ?_⟩
        rw [txt_back hw p1 p2 p3 _ h4]
        rcases kd_name a with h | h
        · omega
        · exact h.2.2
      · rw [if_neg hok]
        exact ⟨z, by decide, by decide, fun h => by simp at h⟩
    · rw [pRes_len h0 h4]
      exact ⟨z, by decide, by decide, fun h => by simp at h⟩

theorem dec1 : Lib.decDigits 1 = [49] := dec_small 1 (by decide)
theorem dec20 : Lib.decDigits 20 = [50, 48] := by rw [dec_big 20 (by decide), dec_small _ (by decide)]; rfl
theorem dec3 : Lib.decDigits 3 = [51] := dec_small 3 (by decide)
theorem awake_f : catenarylaw08_awake.f = some true := by
  unfold catenarylaw08_awake.f
  have h1 : cmds_Text.f 1 1 20 3 = some (bts (txt ⟨1, 1, 20, 3⟩), 0) := text_f ⟨1, 1, 20, 3⟩ (by decide) (by decide)
  have ht : txt ⟨1, 1, 20, 3⟩ = [114, 101, 109, 111, 118, 101, 32, 49, 32, 50, 48, 32, 51] := by
    show (if (1 : Int) = 0 then nmOf 0 else nmOf 1 ++ 32 :: (Lib.decDigits 1 ++ 32 :: (Lib.decDigits 20 ++ 32 :: Lib.decDigits 3))) = _
    rw [dec1, dec20, dec3]
    rfl
  have h2 : pRes [114, 101, 109, 111, 118, 101, 32, 49, 32, 50, 48, 32, 51] = (⟨1, 1, 20, 3⟩, 0) := by decide
  have h3 : cmds_Parse.f (⟨#[114, 101, 109, 111, 118, 101, 32, 49, 32, 50, 48, 32, 51]⟩ : ByteArray) = some (tup (⟨1, 1, 20, 3⟩, 0)) := by rw [← h2]; exact parse_f _ (by decide)
  rw [h1, h3, ht]
  simp only [Option.bind_some, tol]
  rw [if_pos trivial, if_pos trivial]
  rfl

end Go.Proofs.YtlpkandfmbnlnaaDoor.PTxt
