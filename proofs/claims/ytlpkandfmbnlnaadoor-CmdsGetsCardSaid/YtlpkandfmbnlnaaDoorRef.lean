/- The chapter's answers about bytes: Put, Big, Num, Same, Cut, Fail, Raw. -/
import Derived.Test.YtlpkandfmbnlnaaDoorFixIn
import Derived.Handy
set_option linter.unusedVariables false
set_option linter.unusedSimpArgs false
set_option maxRecDepth 100000
namespace Go.Proofs.YtlpkandfmbnlnaaDoor.Ref
open Go Go.RowKit Go.Proofs.YtlpkandfmbnlnaaDoor.Mem Go.Proofs.YtlpkandfmbnlnaaDoor.Num Go.Proofs.YtlpkandfmbnlnaaDoor.Fix

/-- Put's bytes. -/
def rpB (n k : Nat) : List Int := if n < 256 ^ k then be k n else []
def rpE (n k : Nat) : Int := if n < 256 ^ k then 0 else 4

set_option maxHeartbeats 1000000 in
theorem rput_any (n k : Nat) (w : World) (hn : n < 18446744073709551616) (hk1 : 1 ≤ k) (hk : k ≤ 8) :
    Calls Tryd.prog 92 #[.int .u64 n, .int .i64 k] w fun e w' => ∃ u, e = .returned (.tuple #[u, .int .i64 (rpE n k)]) ∧ Own w' w.heap.size 5 .u8 u (rpB n k) ∧ Below w.heap.size w w' := by
  have h1 : decide ((k : Int) < 1) = false := by rw [decide_eq_false_iff_not]; omega
  have h2 : decide ((k : Int) > 8) = false := by rw [decide_eq_false_iff_not]; omega
  go_enter Tryd.func92, Tryd.ntmps92
  go_wp2_with fail
  go_loopw [0, 6, 7] (fun m v i wr => ∃ j q : Nat, j ≤ k ∧ i = .int .i64 j ∧ m = .int .u64 (q : Int) ∧ Hid (q = n / 256 ^ j ∧ Own wr w.heap.size 5 .u8 v (be j n) ∧ Below w.heap.size w wr)) (fun _ _ i _ => k - (intOf i).toNat)
  case atStart => exact ⟨0, n, by omega, rfl, rfl, by simp, Own.nil _ _ _ _, Below.refl _ _⟩
  case round =>
    obtain ⟨j, q, hj, rfl, rfl, hrel⟩ := hrel
    obtain ⟨hq, hO, hB⟩ := hrel.out
    have HO := Lib.hid hO
    have HB := Lib.hid hB
    have HQ := Lib.hid hq
    by_cases hlt : j < k
    · have b1 : decide ((j : Int) < k) = true := by simp [hlt]
      obtain ⟨A, c, rfl, hc, hr, hn2⟩ := hO.sl.look
      have HN2 := Lib.hid hn2
      obtain ⟨b, hb⟩ : ∃ b : Int, b = ((n / 256 ^ j % 256 : Nat) : Int) := ⟨_, rfl⟩
      have hb1 : (q : Int).tmod 256 = b := by rw [hb, ← hq, Int.tmod_eq_emod_of_nonneg (by omega)]; omega
      have hb2 : b % 256 = b := by omega
      have hqs : q < 18446744073709551616 := by rw [hq]; exact Nat.lt_of_le_of_lt (Nat.div_le_self _ _) hn
      have hb3 : IntKind.u64.wrap ((q : Int).tdiv 256) = (q : Int) / 256 := by rw [Int.tdiv_eq_ediv_of_nonneg (by omega), w64]; omega
      have HR := Lib.hid (hr.alloc (.cells #[.int .u8 b] 5))
      have HL := Lib.hid (own_lit wr w.heap.size 5 .u8 [b] hB.size (by simp))
      have HBE := Lib.hid (show b :: be j n = be (j + 1) n from by rw [hb]; rfl)
      clear hO hB hr hrel hn2 hb hq
      go_wp2_with (at_builtin; refine wp_app rfl _ _ _ rfl 5 .u8 1 Tryd.underlying27 info5 (by decide) w.heap.size (.slice (some ⟨wr.heap.size, 0, none⟩) 1 1) [b] rfl HL.out A c (be j n) rfl HR.out HN2.out (by simp [be_len]; omega) (by have := HB.out.size; simp; omega) ?_; intro v' w' ho' hg hat; have HO' := Lib.hid ho'; have HG := Lib.hid hg; clear ho' hg hat)
      go_roundw
      case rel =>
        refine ⟨j + 1, q / 256, by omega, by go_num, by simp, ?_, by have := HO'.out; rwa [List.singleton_append, HBE.out] at this, ?_⟩
        · rw [HQ.out, Nat.div_div_eq_div_mul, ← Nat.pow_succ]
        · exact (HB.out.alloc HB.out.size _).grown HG.out (by have := HB.out.size; simp; omega) (fun k2 e => by have e2 : wr.heap.size = k2 := Option.some.inj e; have := HB.out.size; omega)
      case measure => simp [intOf]; omega
    · have b1 : decide ((j : Int) < k) = false := by simp; omega
      have hjk : j = k := by omega
      subst hjk
      by_cases hz : n < 256 ^ j
      · have hq0 : q = 0 := by rw [hq]; exact Nat.div_eq_of_lt hz
        subst hq0
        have HE := Lib.hid (show rpE n j = 0 from if_pos hz)
        have HS := Lib.hid (show rpB n j = be j n from if_pos hz)
        clear hO hB hrel hq hz
        go_wp2_with fail
        go_ret2
        exact ⟨_, by rw [HE.out]; rfl, by rw [HS.out]; exact HO.out, HB.out⟩
      · have hq0 : 0 < q := by
          rw [hq]
          exact (Nat.le_div_iff_mul_le (Nat.pow_pos (by decide))).2 (by omega)
        have HE := Lib.hid (show rpE n j = 4 from if_neg hz)
        have HS := Lib.hid (show rpB n j = [] from if_neg hz)
        clear hO hB hrel hq hz
        go_wp2_with fail
        go_ret2
        exact ⟨_, by rw [HE.out]; rfl, by rw [HS.out]; exact Own.nil _ _ _ _, HB.out⟩

/-- Big: the bytes of a number that fits. -/
theorem big_any (n k : Nat) (w : World) (hn : n < 18446744073709551616) (hk1 : 1 ≤ k) (hk : k ≤ 8) (hf : n < 256 ^ k) :
    Calls Tryd.prog 59 #[.int .u64 n, .int .i64 k] w fun e w' => ∃ u, e = .returned u ∧ Own w' w.heap.size 5 .u8 u (be k n) ∧ Below w.heap.size w w' := by
  have h := rput_any n k w hn hk1 hk
  rw [show rpB n k = be k n from if_pos hf] at h
  have HP := Lib.hid h
  clear h hf
  go_enter Tryd.func59, Tryd.ntmps59
  go_wp2_with fail
  refine HP.out.mono ?_
  rintro e w' ⟨u, rfl, h1, h2⟩
  have H1 := Lib.hid h1
  have H2 := Lib.hid h2
  clear h1 h2
  go_wp2_with fail
  go_ret
  exact ⟨_, rfl, H1.out, H2.out⟩

set_option maxHeartbeats 1000000 in
/-- Num: the number that bytes are. -/
theorem rnum_any (v : Value) (l : List Int) (w : World) (hs : Sl w .u8 v l) (hb : Bytes l) (hl : l.length ≤ 1000000) :
    Calls Tryd.prog 82 #[v] w fun e w' => e = .returned (.int .u64 (num l)) ∧ w = w' := by
  obtain ⟨A, c, rfl, hc, hr, hn⟩ := hs.look
  have HR := Lib.hid hr
  have HBy := Lib.hid hb
  clear hs hr hb hn
  go_enter Tryd.func82, Tryd.ntmps82
  go_wp2_with fail
  go_loopw [3, 4] (fun s i wr => ∃ j : Nat, j ≤ l.length ∧ i = .int .i64 j ∧ s = .int .u64 (num (l.take j)) ∧ Hid (w = wr)) (fun _ i _ => l.length - (intOf i).toNat)
  case atStart => exact ⟨0, by omega, rfl, by simp [num], rfl⟩
  case round =>
    obtain ⟨j, hj, rfl, rfl, hrel⟩ := hrel
    have hw := hrel.out
    subst hw
    clear hrel
    by_cases hlt : j < l.length
    · obtain ⟨b, off, rfl, hbl, hcell⟩ := HR.out (by omega)
      have hc1 := hcell j hlt
      have hx := HBy.out.getD j
      have ht : num (l.take (j + 1)) = (num (l.take j) * 256 + l.getD j 0) % 18446744073709551616 := by
        have : l.take (j + 1) = l.take j ++ [l.getD j 0] := by
          rw [List.take_succ_eq_append_getElem hlt]
          simp [List.getD, hlt]
        rw [this, num_snoc]
      generalize l.getD j 0 = x at *
      have hmul : IntKind.u64.wrap (IntKind.u64.wrap (num (l.take j) * 256) + IntKind.u64.wrap x) = num (l.take (j + 1)) := by rw [ht, w64, w64, w64]; omega
      clear hcell ht
      have hwx : IntKind.u64.wrap x = x := by rw [w64]; omega
      rw [hwx] at hmul
      go_wp2_with fail
      go_roundw
      case rel => exact ⟨j + 1, by omega, by go_num, rfl, Lib.hid trivial⟩
      case measure => simp [intOf]; omega
    · have hjk : j = l.length := by omega
      subst hjk
      rw [List.take_length]
      go_wp2_with fail
      go_ret
      exact ⟨rfl, rfl⟩

set_option maxHeartbeats 1000000 in
/-- Same: are bytes the same? -/
theorem same_any (v u : Value) (l r : List Int) (w : World) (hs : Sl w .u8 v l) (ht : Sl w .u8 u r) (hl : l.length ≤ 1000000) :
    Calls Tryd.prog 18 #[v, u] w fun e w' => e = .returned (.bool (decide (l = r))) ∧ ∃ q, w.drewN q = w' := by
  obtain ⟨A, c, rfl, hc, hr, hn⟩ := hs.look
  obtain ⟨B, d, rfl, hd, hq, hm⟩ := ht.look
  clear hs ht hn hm
  by_cases hlen : l.length = r.length
  · have HR := Lib.hid hr
    have HQ := Lib.hid hq
    clear hr hq
    go_enter Tryd.func18, Tryd.ntmps18
    go_wp2_with fail
    go_loopw [5] (fun i wr => ∃ j : Nat, j ≤ l.length ∧ i = .int .i64 j ∧ Hid (l.take j = r.take j ∧ ∃ q, w.drewN q = wr)) (fun i _ => l.length - (intOf i).toNat)
    case atStart => exact ⟨0, by omega, rfl, by simp, 0, rfl⟩
    case round =>
      obtain ⟨j, hj, rfl, hrel⟩ := hrel
      obtain ⟨ht, q, rfl⟩ := hrel.out
      have HT := Lib.hid ht
      clear hrel ht
      by_cases hlt : j < l.length
      · obtain ⟨b, off, rfl, hbl, hcell⟩ := HR.out (by omega)
        obtain ⟨b', off', rfl, hbl', hcell'⟩ := HQ.out (by omega)
        have c1 := hcell j hlt
        have c2 := hcell' j (by omega)
        have HX := Lib.hid (show l.take (j + 1) = l.take j ++ [l.getD j 0] by rw [List.take_succ_eq_append_getElem hlt]; simp [List.getD, hlt])
        have HY := Lib.hid (show r.take (j + 1) = r.take j ++ [r.getD j 0] by rw [List.take_succ_eq_append_getElem (by omega)]; simp [List.getD, show j < r.length by omega])
        generalize l.getD j 0 = x at *
        generalize r.getD j 0 = y at *
        clear hcell hcell'
        by_cases hxy : x = y
        · have b2 : (x != y) = false := by simp [hxy]
          have HE := Lib.hid hxy
          clear hxy
          go_wp2_with fail
          go_region
          all_goals (
            go_wp2_with fail
            go_roundw
            case rel => exact ⟨j + 1, by omega, by go_num, by rw [HX.out, HY.out, HT.out, HE.out], q + 1, rfl⟩
            case measure => simp [intOf]; omega)
        · have b2 : (x != y) = true := by simp [hxy]
          have HD := Lib.hid (show decide (l = r) = false by simp only [decide_eq_false_iff_not]; intro e; subst e; have := HX.out.symm.trans HY.out; simp at this; exact hxy this)
          clear hxy
          go_wp2_with fail
          go_region
          all_goals (
            go_wp2_with fail
            go_ret
            exact ⟨by rw [HD.out]; rfl, q + 1, rfl⟩)
      · have hjk : j = l.length := by omega
        subst hjk
        have HD := Lib.hid (show decide (l = r) = true by have := HT.out; rw [List.take_length, hlen, List.take_length] at this; simp [this])
        go_wp2_with fail
        go_ret
        exact ⟨by rw [HD.out]; rfl, q, rfl⟩
  · have b1 : ((l.length : Int) != r.length) = true := by simp; omega
    have hd : decide (l = r) = false := by simp; intro e; exact hlen (by rw [e])
    rw [hd]
    clear hr hq
    go_enter Tryd.func18, Tryd.ntmps18
    go_wp2_with fail
    go_ret
    exact ⟨rfl, 0, rfl⟩

/-- Cut: bytes of which not more than so many are looked at. -/
theorem cut_any (v : Value) (l : List Int) (n : Nat) (w : World) (hs : Sl w .u8 v l) :
    Calls Tryd.prog 21 #[v, .int .i64 n] w fun e w' => ∃ u, e = .returned u ∧ Sl w .u8 u (l.take n) ∧ w = w' := by
  obtain ⟨A, c, rfl, hc, hr, hn⟩ := hs.look
  by_cases hlt : n < l.length
  · obtain ⟨b, off, rfl, hbl, hcell⟩ := hr (by omega)
    have hcn : n ≤ c := by omega
    have HR := Lib.hid hr
    clear hs hr hn hcell
    go_enter Tryd.func21, Tryd.ntmps21
    go_wp2_with fail
    go_ret
    refine ⟨_, rfl, ⟨some ⟨b, off, none⟩, c, by simp [Nat.min_eq_left (Nat.le_of_lt hlt)], by simp; omega, HR.out.take n, fun e => by cases e⟩, rfl⟩
  · have ht : l.take n = l := List.take_of_length_le (by omega)
    rw [ht]
    have HS := Lib.hid hs
    clear hs hr hn ht
    go_enter Tryd.func21, Tryd.ntmps21
    go_wp2_with fail
    go_ret
    exact ⟨_, rfl, HS.out, rfl⟩

/-- The document's In. -/
def RIn (w : World) (v : Value) (l : List Int) (e : Int) : Prop := ∃ A c, v = .agg #[.slice A l.length c, .int .i64 e] ∧ l.length ≤ c ∧ Rd w .u8 A l ∧ (A = none → l = [])
theorem RIn.below {w w' : World} {v : Value} {l : List Int} {e : Int} (h : RIn w v l e) (hb : Below w.heap.size w w') : RIn w' v l e := by
  obtain ⟨A, c, h1, h2, h3, h4⟩ := h
  exact ⟨A, c, h1, h2, h3.below hb, h4⟩

/-- Fail. -/
theorem rfail_any (v : Value) (l : List Int) (e0 e : Int) (w : World) (hI : RIn w v l e0) :
    Calls Tryd.prog 113 #[v, .int .i64 e] w fun e2 w' => ∃ u, e2 = .returned u ∧ RIn w' u (if e0 ≠ 0 then l else []) (if e0 ≠ 0 then e0 else e) ∧ Below w.heap.size w w' := by
  obtain ⟨A, c, rfl, hc, hr, hn⟩ := hI
  have HR := Lib.hid hr
  have HN := Lib.hid hn
  clear hr hn
  by_cases h : e0 = 0
  · rw [if_neg (by simp [h]), if_neg (by simp [h])]
    subst h
    go_enter Tryd.func113, Tryd.ntmps113
    go_wp2_with fail
    go_returns
    exact ⟨_, rfl, ⟨none, 0, rfl, Nat.le_refl _, Rd.nil _ _ _, fun _ => rfl⟩, by go_grown⟩
  · rw [if_pos h, if_pos h]
    have b1 : (e0 != 0) = true := by simp [h]
    clear h
    go_enter Tryd.func113, Tryd.ntmps113
    go_wp2_with fail
    go_returns
    exact ⟨_, rfl, ⟨A, c, rfl, hc, (HR.out.alloc _).alloc _, HN.out⟩, by go_grown⟩

set_option maxHeartbeats 1000000 in
/-- Raw. -/
theorem rraw_any (v : Value) (l : List Int) (err : Int) (n : Nat) (w : World) (hI : RIn w v l err) (hl : l.length ≤ 1000000) (hn : n ≤ 1000000) (hpos : 0 < n) :
    Calls Tryd.prog 81 #[v, .int .i64 n] w fun e w' => ∃ u s, e = .returned (.tuple #[u, s]) ∧ RIn w' u (nL l err n) (nE l err n) ∧ Sl w' .u8 s (nR l err n) ∧ Below w.heap.size w w' := by
  obtain ⟨A, c, rfl, hc, hr, hnn⟩ := hI
  have HR := Lib.hid hr
  have HN := Lib.hid hnn
  clear hr hnn
  have hn0 : decide ((n : Int) < 0) = false := by rw [decide_eq_false_iff_not]; omega
  by_cases h : err = 0
  · subst h
    by_cases h2 : l.length < n
    · have e2 : nL l 0 n = [] := by unfold nL; rw [if_neg (by simp), if_pos h2]
      have e3 : nE l 0 n = 3 := by unfold nE; rw [if_neg (by simp), if_pos h2]
      have e4 : nR l 0 n = [] := by unfold nR; rw [if_neg (by omega)]
      rw [e2, e3, e4]
      clear e2 e3 e4
      have HF := fun W v hI => Lib.hid (rfail_any v l 0 3 W hI)
      go_enter Tryd.func81, Tryd.ntmps81
      go_wp2_with fail
      refine (HF _ _ ⟨A, c, rfl, hc, (HR.out.alloc _).alloc _, HN.out⟩).out.mono ?_
      rintro e w' ⟨u, rfl, h1, h2⟩
      rw [if_neg (by simp), if_neg (by simp)] at h1
      obtain ⟨A2, c2, rfl, hc2, hr2, hn2⟩ := h1
      have hk := Blk.new (w.alloc (.cells #[.slice A l.length c, .int .i64 0] 72)) #[.slice none 0 0, .int .i64 0] 72
      have hk2 := hk.below h2 (by simp)
      rw [World.size_alloc] at hk2
      have k0 := hk2.cell (i := 0) (v := .slice none 0 0) rfl
      have k1 := (hk2.set 0 (.slice A2 0 c2)).cell (i := 1) (v := .int .i64 0) rfl
      have k2 := (hk2.set 0 (.slice A2 0 c2)).cell (i := 0) (v := .slice A2 0 c2) rfl
      have k3 := ((hk2.set 0 (.slice A2 0 c2)).set 1 (.int .i64 3)).cell (i := 1) (v := .int .i64 3) rfl
      have z0 := hk2.free 0
      have z1 := (hk2.set 0 (.slice A2 0 c2)).free 1
      have HR2 := Lib.hid hr2
      have HN2 := Lib.hid hn2
      have H2 := Lib.hid h2
      clear hr2 hn2 h2 hk hk2
      go_wp2_with fail
      refine bodyPost_ret (v := .tuple #[.agg #[.slice A2 0 c2, .int .i64 3], .slice none 0 0]) (by simp [results, Tryd.results81, go_sem, k2, k3]) rfl ?_
      have hbl : Below w.heap.size w w' := (show Below w.heap.size w ((w.alloc (.cells #[.slice A l.length c, .int .i64 0] 72)).alloc (.cells #[.slice none 0 0, .int .i64 0] 72)) by go_grown).trans (H2.out.mono (by simp; omega))
      exact ⟨_, _, rfl, ⟨A2, c2, rfl, by simp, Rd.nil _ _ _, fun _ => rfl⟩, Sl.nil _ _, (hbl.setCell (by simp) _).setCell (by simp) _⟩
    · have h3 : n ≤ l.length := by omega
      have e2 : nL l 0 n = l.drop n := by unfold nL; rw [if_neg (by simp), if_neg h2]
      have e3 : nE l 0 n = 0 := by unfold nE; rw [if_neg (by simp), if_neg h2]
      have e4 : nR l 0 n = l.take n := by unfold nR; rw [if_pos ⟨rfl, h3⟩]
      rw [e2, e3, e4]
      clear e2 e3 e4 h2
      obtain ⟨b, off, rfl, hbl, hcell⟩ := HR.out (by omega)
      clear hcell
      have hcn : n ≤ c := by omega
      by_cases hcc : n = c
      · subst hcc
        have hln : l.length = n := by omega
        go_enter Tryd.func81, Tryd.ntmps81
        go_wp2_with fail
        go_region
        all_goals (
          go_wp2_with fail
          go_returns
          have hd : l.drop n = [] := by rw [← hln]; simp
          have ht : l.take n = l := List.take_of_length_le (by omega)
          rw [hd, ht]
          exact ⟨_, _, rfl, ⟨some ⟨b, off, none⟩, 0, rfl, by simp, Rd.nil _ _ _, fun e => by cases e⟩, ⟨some ⟨b, off, none⟩, n, by rw [hln], by omega, (HR.out.alloc _).alloc _, fun e => by cases e⟩, by go_grown⟩)
      · go_enter Tryd.func81, Tryd.ntmps81
        go_wp2_with fail
        go_region
        all_goals (
          go_wp2_with fail
          go_returns
          have e1 : (l.drop n).length = l.length - n := by simp
          have e2 : (l.take n).length = n := by simp [h3]
          exact ⟨_, _, rfl, ⟨some ⟨b, off + n, none⟩, c - n, by rw [e1], by omega, (((HR.out.alloc _).alloc _).drop n), fun e => by cases e⟩, ⟨some ⟨b, off, none⟩, c, by rw [e2], by omega, (((HR.out.alloc _).alloc _).take n), fun e => by cases e⟩, by go_grown⟩)
  · have b1 : (err != 0) = true := by simp [h]
    have e2 : nL l err n = l := by unfold nL; rw [if_pos h]
    have e3 : nE l err n = err := by unfold nE; rw [if_pos h]
    have e4 : nR l err n = [] := by unfold nR; rw [if_neg (by omega)]
    rw [e2, e3, e4]
    clear h e2 e3 e4
    go_enter Tryd.func81, Tryd.ntmps81
    go_wp2_with fail
    go_returns
    exact ⟨_, _, rfl, ⟨A, c, rfl, hc, (HR.out.alloc _).alloc _, HN.out⟩, Sl.nil _ _, by go_grown⟩

end Go.Proofs.YtlpkandfmbnlnaaDoor.Ref
