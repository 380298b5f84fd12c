/- The walk of the law LatchSets: whatever is called, the law's function answers true, and nothing that was there turns. -/
import Derived.Test.YtnllcbphfpfniaaLa64
import Derived.Test.YtnllcbphfpfniaaAwake
import Derived.Deep.RegionWith
set_option linter.unusedVariables false
set_option linter.unusedSimpArgs false
namespace Go.Proofs.Ytnllcbphfpfniaa.Sets
open Go Go.RowKit Go.Proofs.Ytnllcbphfpfniaa.Blk Go.Proofs.Ytnllcbphfpfniaa.Latch

theorem rset_true (a v : Int) (w : World) :
    Calls Try.prog 9 #[.agg #[.int .u64 a, .bool true], .int .u64 v] w fun e w' => e = .returned (.tuple #[.agg #[.int .u64 a, .bool true], .bool false]) ∧ (w.alloc (.cells #[.int .u64 a, .bool true] 27)).alloc (.cells #[.int .u64 a, .bool true] 27) = w' := by
  go_enter Try.func9, Try.ntmps9
  go_wp2
  exact bodyPost_ret (v := .tuple #[.agg #[.int .u64 a, .bool true], .bool false]) (by simp [results, Try.results9, go_sem]) rfl ⟨rfl, rfl⟩

theorem rset_false (a v : Int) (w : World) :
    Calls Try.prog 9 #[.agg #[.int .u64 a, .bool false], .int .u64 v] w fun e w' => e = .returned (.tuple #[.agg #[.int .u64 v, .bool true], .bool true]) ∧ (w.alloc (.cells #[.int .u64 a, .bool false] 27)).alloc (.cells #[.int .u64 v, .bool true] 27) = w' := by
  go_enter Try.func9, Try.ntmps9
  go_wp2
  exact bodyPost_ret (v := .tuple #[.agg #[.int .u64 v, .bool true], .bool true]) (by simp [results, Try.results9, go_sem]) rfl ⟨rfl, rfl⟩

theorem ror_true (a v : Int) (w : World) :
    Calls Try.prog 13 #[.agg #[.int .u64 a, .bool true], .int .u64 v] w fun e w' => e = .returned (.int .u64 a) ∧ w.alloc (.cells #[.int .u64 a, .bool true] 27) = w' := by
  go_enter Try.func13, Try.ntmps13
  go_wp2
  go_ret
  exact ⟨rfl, rfl⟩

theorem ror_false (a v : Int) (w : World) :
    Calls Try.prog 13 #[.agg #[.int .u64 a, .bool false], .int .u64 v] w fun e w' => e = .returned (.int .u64 v) ∧ w.alloc (.cells #[.int .u64 a, .bool false] 27) = w' := by
  go_enter Try.func13, Try.ntmps13
  go_wp2
  go_ret
  exact ⟨rfl, rfl⟩

/-- What the latch has behind some calls. -/
def stOf : List (Int × Int) → Option Int
  | [] => none
  | a :: r => if a.1 = 0 then some a.2 else stOf r

theorem stOf_snoc (l : List (Int × Int)) (z : Int × Int) : stOf (l ++ [z]) = match stOf l with | some v => some v | none => if z.1 = 0 then some z.2 else none := by
  induction l with
  | nil => simp [stOf]
  | cons a r ih =>
    simp only [List.cons_append, stOf]
    split
    · rfl
    · exact ih

theorem take_st (zs : List (Int × Int)) (k : Nat) (h : k < zs.length) : stOf (zs.take (k + 1)) = match stOf (zs.take k) with | some v => some v | none => if (zs.getD k (0, 0)).1 = 0 then some (zs.getD k (0, 0)).2 else none := by
  rw [List.take_succ_eq_append_getElem h, stOf_snoc]
  simp [h]

/-- The calls, as they lie in memory. -/
def Acts (w : World) (b off : Nat) (zs : List (Int × Int)) : Prop :=
  ∀ i, i < zs.length → w.cell? ⟨b, off + i * 2, none⟩ = some (.int .i64 (zs.getD i (0, 0)).1) ∧ w.cell? ⟨b, off + i * 2 + 1, none⟩ = some (.int .u64 (zs.getD i (0, 0)).2)

/-- The reference's latch in block R. -/
def RAt (w : World) (R : Nat) (st : Option Int) : Prop :=
  match st with
  | none => Blk w R #[.int .u64 0, .bool false] 27
  | some v => Blk w R #[.int .u64 v, .bool true] 27

set_option maxRecDepth 100000 in
set_option maxHeartbeats 6400000 in
theorem sets_any (b off cap : Nat) (zs : List (Int × Int)) (w : World) (hz : zs.length ≤ 140737488351232) (hA : Acts w b off zs) :
    Calls Try.prog 3 #[.slice (some ⟨b, off, none⟩) zs.length cap] w fun e w' => e = .returned (.bool true) ∧ w.grownBy w' none := by
  have HAW := Lib.hid Awake.awake_any
  have HAC := Lib.hid hA
  clear hA
  go_enter Try.func3, Try.ntmps3
  go_wp2_with fail
  refine (La64.new_any w).mono ?_
  rintro e w1 ⟨rfl, rfl⟩
  go_wp2_with fail
  generalize hL : w.heap.size = L
  have hLw := Nat.le_of_eq hL.symm
  have HL := Lib.hid hL
  clear hL
  go_loopw [5] (fun i wr => ∃ k : Nat, k ≤ zs.length ∧ i = .int .i64 k ∧ Hid (La64.At wr L (stOf (zs.take k)) ∧ RAt wr (L + 1) (stOf (zs.take k)) ∧ w.grownBy wr none)) (fun i _ => zs.length - (intOf i).toNat)
  case atStart =>
    have e := HL.out
    subst e
    refine ⟨0, Nat.zero_le _, rfl, ?_⟩
    have k0 := Blk.new w #[.int .u32 0, .int .i32 0, .int .u32 0, .int .u32 0, .int .u64 0] 64
    have k1 := Blk.new (w.alloc (.cells #[.int .u32 0, .int .i32 0, .int .u32 0, .int .u32 0, .int .u64 0] 64)) #[.int .u64 0, .bool false] 27
    have s1 : (w.alloc (.cells #[.int .u32 0, .int .i32 0, .int .u32 0, .int .u32 0, .int .u64 0] 64)).heap.size = w.heap.size + 1 := by simp
    rw [s1] at k1
    exact ⟨k0.alloc _, k1, grown_trans (grown_alloc _ _ _) (grown_alloc _ _ _)⟩
  case round =>
    obtain ⟨k, hk, rfl, hrel⟩ := hrel
    by_cases h1 : k < zs.length
    · have hc := HAC.out k h1
      have g := hrel.out.2.2
      have cK := g.cell hc.1 (by simp)
      have cV := g.cell hc.2 (by simp)
      generalize hzk : zs.getD k (0, 0) = z at cK cV
      obtain ⟨K, V⟩ := z
      have HZ := Lib.hid hzk
      clear hzk hc g
      by_cases h2 : k < 40
      · have hs := take_st zs k h1
        rw [HZ.out] at hs
        obtain ⟨hr1, hr2, hr3⟩ := hrel.out
        clear hrel
        generalize hst : stOf (zs.take k) = st at hr1 hr2 hs
        have HST := Lib.hid hst
        clear hst
        have G := Lib.hid hr3
        have H1 := Lib.hid hr1
        clear hr3 hr1
        rcases st with _ | u
        · have hR : Blk wr (L + 1) #[.int .u64 0, .bool false] 27 := hr2
          have hlt : L + 1 < wr.heap.size := hR.lt
          have H2 := Lib.hid hR
          have cR := hR.cell (i := 0) (v := .int .u64 0) rfl
          have cR1 := hR.cell (i := 1) (v := .bool false) rfl
          clear hr2 hR
          by_cases hK : K = 0
          · subst hK
            have HS := Lib.hid hs
            clear hs
            have kR := (((H2.out.alloc (.cells #[.int .i64 0, .int .u64 V] 29)).alloc (.cells #[.int .u64 0, .bool false] 27)).alloc (.cells #[.int .u64 V, .bool true] 27)).alloc (.cells #[.int .u64 V, .bool true] 27)
            have kN := (((Blk.new wr #[.int .i64 0, .int .u64 V] 29).alloc (.cells #[.int .u64 0, .bool false] 27)).alloc (.cells #[.int .u64 V, .bool true] 27)).alloc (.cells #[.int .u64 V, .bool true] 27)
            have d0 := kR.cell (i := 0) (v := .int .u64 0) rfl
            have d1 := kR.cell (i := 1) (v := .bool false) rfl
            have e0 := kR.free 0
            have kR1 := kR.set 0 (.int .u64 V)
            have d2 := kR1.cell (i := 1) (v := .bool false) rfl
            have e2 := kR1.free 1
            have kR2 := Lib.hid (kR1.set 1 (.bool true))
            have kN2 := (kN.other (a := ⟨L + 1, 0, none⟩) (by show wr.heap.size ≠ L + 1; omega) (.int .u64 V)).other (a := ⟨L + 1, 1, none⟩) (by show wr.heap.size ≠ L + 1; omega) (.bool true)
            have d3 := kN2.cell (i := 1) (v := .int .u64 V) rfl
            have HA5 := Lib.hid ((((((H1.out.alloc (.cells #[.int .i64 0, .int .u64 V] 29)).alloc (.cells #[.int .u64 0, .bool false] 27)).alloc (.cells #[.int .u64 V, .bool true] 27)).alloc (.cells #[.int .u64 V, .bool true] 27)).setCell (a := ⟨L + 1, 0, none⟩) (by show L ≠ L + 1; omega) (.int .u64 V)).setCell (a := ⟨L + 1, 1, none⟩) (by show L ≠ L + 1; omega) (.bool true))
            have G5 := Lib.hid (grown_new (grown_new (grown_trans (grown_trans (grown_trans (grown_trans G.out (grown_alloc wr (.cells #[.int .i64 0, .int .u64 V] 29) none)) (grown_alloc _ (.cells #[.int .u64 0, .bool false] 27) none)) (grown_alloc _ (.cells #[.int .u64 V, .bool true] 27) none)) (grown_alloc _ (.cells #[.int .u64 V, .bool true] 27) none)) (p := ⟨L + 1, 0, none⟩) (by show w.heap.size ≤ L + 1; have := HL.out; omega) (.int .u64 V)) (p := ⟨L + 1, 1, none⟩) (by show w.heap.size ≤ L + 1; have := HL.out; omega) (.bool true))
            clear kR kN kR1 kN2
            go_wp2_with fail
            refine (rset_false 0 V _).mono ?_
            rintro e w' ⟨rfl, rfl⟩
            go_wp2_with fail
            refine (La64.set_first L V _ HA5.out).mono ?_
            rintro e w' ⟨rfl, k1, k2⟩
            have K1 := Lib.hid k1
            have K2 := Lib.hid k2
            clear k1 k2
            go_wp2_with fail
            go_roundw
            case rel =>
              refine ⟨k + 1, by omega, by go_num, ?_⟩
              have hst : stOf (zs.take (k + 1)) = (some V) := HS.out
              rw [hst]
              exact ⟨K1.out, Blk.grown (show Blk _ (L + 1) #[.int .u64 V, .bool true] 27 from kR2.out) K2.out (by simp), grown_fresh G5.out K2.out (Nat.le_of_eq HL.out)⟩
            case measure => simp [intOf]; omega
          · have b0 : (K == 0) = false := by simpa using hK
            have HS := Lib.hid (show stOf (zs.take (k + 1)) = none from by simpa [hK] using hs)
            clear hs
            by_cases hK1 : K = 1
            · subst hK1
              have kR := H2.out.alloc (.cells #[.int .i64 1, .int .u64 V] 29)
              have d0 := kR.cell (i := 0) (v := .int .u64 0) rfl
              have d1 := kR.cell (i := 1) (v := .bool false) rfl
              have HR := Lib.hid kR
              clear kR
              have HA1 := Lib.hid (H1.out.alloc (.cells #[.int .i64 1, .int .u64 V] 29))
              have G1 := Lib.hid (grown_trans G.out (grown_alloc wr (.cells #[.int .i64 1, .int .u64 V] 29) none))
              go_wp2_with fail
              refine (La64.get_none L _ HA1.out).mono ?_
              rintro e w' ⟨rfl, rfl⟩
              go_wp2_with fail
              go_roundw
              case rel =>
                refine ⟨k + 1, by omega, by go_num, ?_⟩
                have hst : stOf (zs.take (k + 1)) = none := HS.out
                rw [hst]
                exact ⟨HA1.out, HR.out, G1.out⟩
              case measure => simp [intOf]; omega
            · have b1 : (K == 1) = false := by simpa using hK1
              have kR := H2.out.alloc (.cells #[.int .i64 K, .int .u64 V] 29)
              have kN := Blk.new wr #[.int .i64 K, .int .u64 V] 29
              have d0 := kR.cell (i := 0) (v := .int .u64 0) rfl
              have d1 := kR.cell (i := 1) (v := .bool false) rfl
              have dN := kN.cell (i := 1) (v := .int .u64 V) rfl
              have HN := Lib.hid kN
              have HR := Lib.hid kR
              clear kR kN
              have HA1 := Lib.hid (H1.out.alloc (.cells #[.int .i64 K, .int .u64 V] 29))
              have G1 := Lib.hid (grown_trans G.out (grown_alloc wr (.cells #[.int .i64 K, .int .u64 V] 29) none))
              go_wp2_with fail
              go_region_with (first | (go_at_call 12; refine (La64.or_none L V _ (by first | exact HA1.out | exact La64.At.alloc HA1.out _)).mono ?_; rintro e w' ⟨rfl, rfl⟩) | (go_at_call 13; refine (ror_false 0 V _).mono ?_; rintro e w' ⟨rfl, rfl⟩))
              all_goals
                go_wp2_with fail
                go_roundw
                case rel =>
                  refine ⟨k + 1, by omega, by go_num, ?_⟩
                  have hst : stOf (zs.take (k + 1)) = none := HS.out
                  rw [hst]
                  exact ⟨HA1.out.alloc (.cells #[.int .u64 0, .bool false] 27), HR.out.alloc (.cells #[.int .u64 0, .bool false] 27), grown_trans (grown_trans G1.out (grown_alloc _ (.cells #[.int .u64 0, .bool false] 27) none)) (grown_drew _ none)⟩
                case measure => simp [intOf]; omega
        · have hR : Blk wr (L + 1) #[.int .u64 u, .bool true] 27 := hr2
          have hlt : L + 1 < wr.heap.size := hR.lt
          have H2 := Lib.hid hR
          have cR := hR.cell (i := 0) (v := .int .u64 u) rfl
          have cR1 := hR.cell (i := 1) (v := .bool true) rfl
          clear hr2 hR
          by_cases hK : K = 0
          · subst hK
            have HS := Lib.hid hs
            clear hs
            have kR := (((H2.out.alloc (.cells #[.int .i64 0, .int .u64 V] 29)).alloc (.cells #[.int .u64 u, .bool true] 27)).alloc (.cells #[.int .u64 u, .bool true] 27)).alloc (.cells #[.int .u64 u, .bool true] 27)
            have kN := (((Blk.new wr #[.int .i64 0, .int .u64 V] 29).alloc (.cells #[.int .u64 u, .bool true] 27)).alloc (.cells #[.int .u64 u, .bool true] 27)).alloc (.cells #[.int .u64 u, .bool true] 27)
            have d0 := kR.cell (i := 0) (v := .int .u64 u) rfl
            have d1 := kR.cell (i := 1) (v := .bool true) rfl
            have e0 := kR.free 0
            have kR1 := kR.set 0 (.int .u64 u)
            have d2 := kR1.cell (i := 1) (v := .bool true) rfl
            have e2 := kR1.free 1
            have kR2 := Lib.hid (kR1.set 1 (.bool true))
            have kN2 := (kN.other (a := ⟨L + 1, 0, none⟩) (by show wr.heap.size ≠ L + 1; omega) (.int .u64 u)).other (a := ⟨L + 1, 1, none⟩) (by show wr.heap.size ≠ L + 1; omega) (.bool true)
            have d3 := kN2.cell (i := 1) (v := .int .u64 V) rfl
            have HA5 := Lib.hid ((((((H1.out.alloc (.cells #[.int .i64 0, .int .u64 V] 29)).alloc (.cells #[.int .u64 u, .bool true] 27)).alloc (.cells #[.int .u64 u, .bool true] 27)).alloc (.cells #[.int .u64 u, .bool true] 27)).setCell (a := ⟨L + 1, 0, none⟩) (by show L ≠ L + 1; omega) (.int .u64 u)).setCell (a := ⟨L + 1, 1, none⟩) (by show L ≠ L + 1; omega) (.bool true))
            have G5 := Lib.hid (grown_new (grown_new (grown_trans (grown_trans (grown_trans (grown_trans G.out (grown_alloc wr (.cells #[.int .i64 0, .int .u64 V] 29) none)) (grown_alloc _ (.cells #[.int .u64 u, .bool true] 27) none)) (grown_alloc _ (.cells #[.int .u64 u, .bool true] 27) none)) (grown_alloc _ (.cells #[.int .u64 u, .bool true] 27) none)) (p := ⟨L + 1, 0, none⟩) (by show w.heap.size ≤ L + 1; have := HL.out; omega) (.int .u64 u)) (p := ⟨L + 1, 1, none⟩) (by show w.heap.size ≤ L + 1; have := HL.out; omega) (.bool true))
            clear kR kN kR1 kN2
            go_wp2_with fail
            refine (rset_true u V _).mono ?_
            rintro e w' ⟨rfl, rfl⟩
            go_wp2_with fail
            refine (La64.set_again L u V _ HA5.out).mono ?_
            rintro e w' ⟨rfl, k1, k2⟩
            have K1 := Lib.hid k1
            have K2 := Lib.hid k2
            clear k1 k2
            go_wp2_with fail
            go_roundw
            case rel =>
              refine ⟨k + 1, by omega, by go_num, ?_⟩
              have hst : stOf (zs.take (k + 1)) = (some u) := HS.out
              rw [hst]
              exact ⟨K1.out, Blk.grown (show Blk _ (L + 1) #[.int .u64 u, .bool true] 27 from kR2.out) K2.out (by simp), grown_trans G5.out K2.out⟩
            case measure => simp [intOf]; omega
          · have b0 : (K == 0) = false := by simpa using hK
            have HS := Lib.hid (show stOf (zs.take (k + 1)) = some u from hs)
            clear hs
            by_cases hK1 : K = 1
            · subst hK1
              have kR := H2.out.alloc (.cells #[.int .i64 1, .int .u64 V] 29)
              have d0 := kR.cell (i := 0) (v := .int .u64 u) rfl
              have d1 := kR.cell (i := 1) (v := .bool true) rfl
              have HR := Lib.hid kR
              clear kR
              have HA1 := Lib.hid (H1.out.alloc (.cells #[.int .i64 1, .int .u64 V] 29))
              have G1 := Lib.hid (grown_trans G.out (grown_alloc wr (.cells #[.int .i64 1, .int .u64 V] 29) none))
              go_wp2_with fail
              refine (La64.get_some L u _ HA1.out).mono ?_
              rintro e w' ⟨rfl, rfl⟩
              go_wp2_with fail
              go_roundw
              case rel =>
                refine ⟨k + 1, by omega, by go_num, ?_⟩
                have hst : stOf (zs.take (k + 1)) = (some u) := HS.out
                rw [hst]
                exact ⟨HA1.out, HR.out, G1.out⟩
              case measure => simp [intOf]; omega
            · have b1 : (K == 1) = false := by simpa using hK1
              have kR := H2.out.alloc (.cells #[.int .i64 K, .int .u64 V] 29)
              have kN := Blk.new wr #[.int .i64 K, .int .u64 V] 29
              have d0 := kR.cell (i := 0) (v := .int .u64 u) rfl
              have d1 := kR.cell (i := 1) (v := .bool true) rfl
              have dN := kN.cell (i := 1) (v := .int .u64 V) rfl
              have HN := Lib.hid kN
              have HR := Lib.hid kR
              clear kR kN
              have HA1 := Lib.hid (H1.out.alloc (.cells #[.int .i64 K, .int .u64 V] 29))
              have G1 := Lib.hid (grown_trans G.out (grown_alloc wr (.cells #[.int .i64 K, .int .u64 V] 29) none))
              go_wp2_with fail
              go_region_with (first | (go_at_call 12; refine (La64.or_some L u V _ (by first | exact HA1.out | exact La64.At.alloc HA1.out _)).mono ?_; rintro e w' ⟨rfl, rfl⟩) | (go_at_call 13; refine (ror_true u V _).mono ?_; rintro e w' ⟨rfl, rfl⟩))
              all_goals
                go_wp2_with fail
                go_roundw
                case rel =>
                  refine ⟨k + 1, by omega, by go_num, ?_⟩
                  have hst : stOf (zs.take (k + 1)) = (some u) := HS.out
                  rw [hst]
                  exact ⟨HA1.out.alloc (.cells #[.int .u64 u, .bool true] 27), HR.out.alloc (.cells #[.int .u64 u, .bool true] 27), grown_trans (grown_trans G1.out (grown_alloc _ (.cells #[.int .u64 u, .bool true] 27) none)) (grown_drew _ none)⟩
                case measure => simp [intOf]; omega
      · have G := Lib.hid hrel.out.2.2
        clear hrel
        go_wp2_with fail
        refine (HAW.out _).mono ?_
        rintro e w' ⟨rfl, g2⟩
        have G2 := Lib.hid g2
        clear g2
        go_wp2_with fail
        go_ret
        exact ⟨rfl, grown_trans G.out G2.out⟩
    · have G := Lib.hid hrel.out.2.2
      clear hrel
      go_wp2_with fail
      refine (HAW.out _).mono ?_
      rintro e w' ⟨rfl, g2⟩
      have G2 := Lib.hid g2
      clear g2
      go_wp2_with fail
      go_ret
      exact ⟨rfl, grown_trans G.out G2.out⟩

end Go.Proofs.Ytnllcbphfpfniaa.Sets
