/- The command of a text. -/
import Derived.Test.YtlpkandfmbnlnaaDoorNumb
import Derived.Test.YtlpkandfmbnlnaaDoorCmdsG
set_option linter.unusedVariables false
set_option linter.unusedSimpArgs false
set_option maxRecDepth 100000
namespace Go.Proofs.YtlpkandfmbnlnaaDoor.Txt
open Go Go.RowKit Go.Proofs.YtlpkandfmbnlnaaDoor.Str Go.Proofs.YtlpkandfmbnlnaaDoor.Mem Go.Proofs.YtlpkandfmbnlnaaDoor.Cmd

def pC (a b c d : List UInt8) : C := ⟨kdOf a, nbV b 4, nbV c 18446744073709551615, nbV d 24⟩
def pOk (a b c d : List UInt8) : Bool := decide (nbE b 4 = 0 ∧ nbE c 18446744073709551615 = 0 ∧ nbE d 24 = 0 ∧ kdOf a ≠ 0 ∧ chk (pC a b c d) = 0)
def pRes (l : List UInt8) : C × Int :=
  if l = nmOf 0 then (C.zero, 0) else
  match words l with
  | [a, b, c, d] => if pOk a b c d = true then (pC a b c d, 0) else (C.zero, 4)
  | _ => (C.zero, 4)
theorem pRes_noop {l : List UInt8} (h : l = nmOf 0) : pRes l = (C.zero, 0) := by unfold pRes; rw [if_pos h]
theorem pRes_len {l : List UInt8} (h : ¬ l = nmOf 0) (hl : (words l).length ≠ 4) : pRes l = (C.zero, 4) := by
  unfold pRes
  rw [if_neg h]
  split
  · rename_i a b c d e
    rw [e] at hl
    simp at hl
  · rfl
theorem pRes_four {l : List UInt8} (h : ¬ l = nmOf 0) {a b c d : List UInt8} (hw : words l = [a, b, c, d]) : pRes l = if pOk a b c d = true then (pC a b c d, 0) else (C.zero, 4) := by
  unfold pRes
  rw [if_neg h, hw]
theorem setC_below' {w W : World} {B b : Nat} (h : Below b w W) (hB : b ≤ B) (c : C) : Below b w (setC W B c) :=
  (((h.setCell (p := ⟨B, 0, none⟩) hB _).setCell (p := ⟨B, 1, none⟩) hB _).setCell (p := ⟨B, 2, none⟩) hB _).setCell (p := ⟨B, 3, none⟩) hB _
theorem nbV_le (l : List UInt8) (m : Nat) : nbV l m ≤ m := by
  unfold nbV nbOk
  split
  · rename_i h
    simp at h
    omega
  · omega
theorem split_words (s : ByteArray) : (Lib.splitB ⟨#[32]⟩ 0 (Lib.countB s ⟨#[32]⟩) s).map (·.data.toList) = words s.data.toList := by
  rw [Lib.splitB_data]
  exact splitK_words s.data.toList
theorem split_len (s : ByteArray) : (Lib.splitB ⟨#[32]⟩ 0 (Lib.countB s ⟨#[32]⟩) s).length = Lib.countB s ⟨#[32]⟩ + 1 := Lib.splitB_all ⟨#[32]⟩ (by decide) 0 _ s rfl
theorem four_of {l : List ByteArray} (h : l.length = 4) : ∃ a b c d, l = [a, b, c, d] := by
  match l, h with
  | [a, b, c, d], _ => exact ⟨a, b, c, d, rfl⟩
theorem size_mem {s x : ByteArray} (h : x ∈ Lib.splitB ⟨#[32]⟩ 0 (Lib.countB s ⟨#[32]⟩) s) : x.size ≤ s.size := by
  have h1 : x.data.toList ∈ words s.data.toList := by
    rw [← split_words]
    exact List.mem_map_of_mem h
  have h2 := congrArg List.length (join_words s.data.toList)
  have key : ∀ (ws : List (List UInt8)) (y : List UInt8), y ∈ ws → y.length ≤ (Lib.join ws [32]).length := by
    intro ws
    induction ws with
    | nil => intro y hy; simp at hy
    | cons z r ih =>
      intro y hy
      cases r with
      | nil =>
        rw [Lib.join_one]
        rw [List.mem_singleton.1 hy]
        exact Nat.le_refl _
      | cons z2 r2 =>
        rw [join_cons2]
        rcases List.mem_cons.1 hy with rfl | hy
        · simp
        · have := ih y hy
          simp
          omega
  have h3 := key _ _ h1
  rw [h2] at h3
  simpa using h3

set_option maxHeartbeats 4000000 in
/-- cmds.Parse. -/
theorem parse_any (s : ByteArray) (w : World) (hE : Env w) (hs : s.size < 4294967281) :
    Calls Tryd.prog 17 #[.string s] w fun e w' => e = .returned (.tuple #[(pRes s.data.toList).1.v, .int .i64 (pRes s.data.toList).2]) ∧ Below w.heap.size w w' := by
  have HN : ∀ W, Below w.heap.size w W → Hid (Calls Tryd.prog 13 #[.int .i64 0] W fun e w' => e = .returned (.string ⟨#[110, 111, 111, 112]⟩) ∧ W = w') := fun W h => Lib.hid (name_any 0 W (hE.below h))
  have hk0 := Blk.new w #[.int .i64 0, .int .i64 0, .int .u64 0, .int .i64 0] 24
  have HK := Lib.hid hk0
  by_cases h0 : s.data.toList = nmOf 0
  · have f0 : (s.toList == [110, 111, 111, 112]) = true := by rw [Lib.toList_data, h0]; rfl
    have HR := Lib.hid (pRes_noop h0)
    clear h0 hs hE hk0
    go_enter Tryd.func17, Tryd.ntmps17
    go_wp2_with fail
    refine (HN _ (by go_grown)).out.mono ?_
    rintro e w1 ⟨rfl, rfl⟩
    go_wp2_with fail
    rw [HR.out]
    exact bodyPost_ret (v := .tuple #[.agg #[.int .i64 0, .int .i64 0, .int .u64 0, .int .i64 0], .int .i64 0]) (by simp [results, Tryd.results17, go_sem]) rfl ⟨rfl, by go_grown⟩
  · have f0 : (s.toList == [110, 111, 111, 112]) = false := by
      rw [Lib.toList_data, beq_eq_false_iff_ne]
      exact h0
    have hws := split_words s
    have hl := split_len s
    have hmem := fun x => size_mem (s := s) (x := x)
    have HS : ∀ W, Below w.heap.size w W → Hid (Calls Tryd.prog 57 #[.string s, .string ⟨#[32]⟩] W fun e w' => e = .returned (.slice (some ⟨W.heap.size, 0, none⟩) (Lib.countB s ⟨#[32]⟩ + 1) (Lib.countB s ⟨#[32]⟩ + 1)) ∧ W.alloc (.cells ((Lib.splitB ⟨#[32]⟩ 0 (Lib.countB s ⟨#[32]⟩) s).map Value.string).toArray 9) = w') := fun W h => Lib.hid (by
      obtain ⟨m, hm⟩ := (hE.below h).most
      refine (Tryd.strings_Split s ⟨#[32]⟩ m W hs hm (by decide)).mono ?_
      rintro e w' ⟨rfl, rfl⟩
      exact ⟨rfl, rfl⟩)
    rw [← hl] at HS
    generalize Lib.splitB ⟨#[32]⟩ 0 (Lib.countB s ⟨#[32]⟩) s = L at *
    have hlw : (words s.data.toList).length = L.length := by rw [← hws]; simp
    by_cases h4 : L.length = 4
    · obtain ⟨A, B, C', D, rfl⟩ := four_of h4
      have hwf : words s.data.toList = [A.data.toList, B.data.toList, C'.data.toList, D.data.toList] := by rw [← hws]; rfl
      have HR := Lib.hid (pRes_four h0 hwf)
      have sB := hmem B (by simp)
      have sC := hmem C' (by simp)
      have sD := hmem D (by simp)
      have HNb := fun (X : ByteArray) (m : Nat) W (h : Below w.heap.size w W) (hx : X.size ≤ 281474976710656) (hm : m < 18446744073709551616) => Lib.hid (number_any X m W (hE.below h) hx hm)
      have HKd := fun W (h : Below w.heap.size w W) => Lib.hid (kind_any A W (hE.below h))
      have HCh := fun c W => Lib.hid (check_any c W)
      have HSz := Lib.hid (show B.size ≤ 281474976710656 ∧ C'.size ≤ 281474976710656 ∧ D.size ≤ 281474976710656 from ⟨by omega, by omega, by omega⟩)
      clear hws hl hmem hlw h4 hwf h0 hs sB sC sD hE hk0
      go_enter Tryd.func17, Tryd.ntmps17
      go_wp2_with fail
      refine (HN _ (by go_grown)).out.mono ?_
      rintro e w1 ⟨rfl, rfl⟩
      go_wp2_with fail
      refine (HS _ (by go_grown)).out.mono ?_
      rintro e w1 ⟨rfl, rfl⟩
      have hkL := Blk.new (w.alloc (.cells #[.int .i64 0, .int .i64 0, .int .u64 0, .int .i64 0] 24)) ([A, B, C', D].map Value.string).toArray 9
      rw [World.size_alloc] at hkL
      have HB1 := Lib.hid (show Below w.heap.size w ((w.alloc (.cells #[.int .i64 0, .int .i64 0, .int .u64 0, .int .i64 0] 24)).alloc (.cells ([A, B, C', D].map Value.string).toArray 9)) by go_grown)
      have HK1 := Lib.hid (HK.out.alloc (.cells ([A, B, C', D].map Value.string).toArray 9))
      generalize (w.alloc (.cells #[.int .i64 0, .int .i64 0, .int .u64 0, .int .i64 0] 24)).alloc (.cells ([A, B, C', D].map Value.string).toArray 9) = W1 at *
      have l1 := hkL.cell (i := 1) (v := .string B) rfl
      have HL1 := Lib.hid hkL
      clear hkL HK
      go_wp2_with fail
      refine (HNb B 4 W1 HB1.out HSz.out.1 (by decide)).out.mono ?_
      rintro e w2 ⟨rfl, hb⟩
      have HB2 := Lib.hid (HB1.out.trans (hb.mono HB1.out.size))
      have HK2 := Lib.hid (HK1.out.below hb HK1.out.lt)
      have hkL := HL1.out.below hb HL1.out.lt
      have l2 := hkL.cell (i := 2) (v := .string C') rfl
      have HL2 := Lib.hid hkL
      clear hkL hb HL1 HK1 l1
      go_wp2_with fail
      refine (HNb C' 18446744073709551615 w2 HB2.out HSz.out.2.1 (by decide)).out.mono ?_
      rintro e w3 ⟨rfl, hb⟩
      have HB3 := Lib.hid (HB2.out.trans (hb.mono HB2.out.size))
      have HK3 := Lib.hid (HK2.out.below hb HK2.out.lt)
      have hkL := HL2.out.below hb HL2.out.lt
      have l3 := hkL.cell (i := 3) (v := .string D) rfl
      have HL3 := Lib.hid hkL
      clear hkL hb HL2 HK2 l2
      go_wp2_with fail
      refine (HNb D 24 w3 HB3.out HSz.out.2.2 (by decide)).out.mono ?_
      rintro e w4 ⟨rfl, hb⟩
      have HB4 := Lib.hid (HB3.out.trans (hb.mono HB3.out.size))
      have HK4 := Lib.hid (HK3.out.below hb HK3.out.lt)
      have hkL := HL3.out.below hb HL3.out.lt
      have l0 := hkL.cell (i := 0) (v := .string A) rfl
      clear hkL hb HL3 HK3 l3
      go_wp2_with fail
      refine (HKd w4 HB4.out).out.mono ?_
      rintro e w' ⟨rfl, rfl⟩
      have nb := nbV_le B.data.toList 4
      have nc := nbV_le C'.data.toList 18446744073709551615
      have nd := nbV_le D.data.toList 24
      have hC : pC A.data.toList B.data.toList C'.data.toList D.data.toList = ⟨kdOf A.data.toList, nbV B.data.toList 4, nbV C'.data.toList 18446744073709551615, nbV D.data.toList 24⟩ := rfl
      have hOk : pOk A.data.toList B.data.toList C'.data.toList D.data.toList = decide (nbE B.data.toList 4 = 0 ∧ nbE C'.data.toList 18446744073709551615 = 0 ∧ nbE D.data.toList 24 = 0 ∧ kdOf A.data.toList ≠ 0 ∧ chk (pC A.data.toList B.data.toList C'.data.toList D.data.toList) = 0) := rfl
      have hr := HR.out
      rw [hOk, hC] at hr
      have HC2 := fun W => HCh ⟨kdOf A.data.toList, nbV B.data.toList 4, nbV C'.data.toList 18446744073709551615, nbV D.data.toList 24⟩ W
      unfold C.v C.cells at HC2
      simp only at HC2
      generalize chk ⟨kdOf A.data.toList, nbV B.data.toList 4, nbV C'.data.toList 18446744073709551615, nbV D.data.toList 24⟩ = x5 at *
      generalize nbV B.data.toList 4 = v1 at *
      generalize nbV C'.data.toList 18446744073709551615 = v2 at *
      generalize nbV D.data.toList 24 = v3 at *
      generalize nbE B.data.toList 4 = x1 at *
      generalize nbE C'.data.toList 18446744073709551615 = x2 at *
      generalize nbE D.data.toList 24 = x3 at *
      generalize kdOf A.data.toList = x4 at *
      have wv1 : IntKind.i64.wrap (v1 : Int) = v1 := by rw [IntKind.wrap_i64]; omega
      have wv3 : IntKind.i64.wrap (v3 : Int) = v3 := by rw [IntKind.wrap_i64]; omega
      clear hC hOk nb nc nd HR HCh HSz HNb HKd HN HS
      by_cases qx1 : x1 = 0
      rotate_left
      · rw [if_neg (by rw [decide_eq_true_eq]; rintro ⟨g1, g2, g3, g4, g5⟩; exact qx1 g1)] at hr
        have HR := Lib.hid hr
        clear hr
        have bx1 : (x1 != 0) = true := by rw [bne_iff_ne]; exact qx1
        clear qx1
        have c0 := (HK4.out.alloc (.cells #[.int .i64 x4, .int .i64 v1, .int .u64 v2, .int .i64 v3] 24)).cell (i := 0) (v := .int .i64 0) rfl
        have c1 := (HK4.out.alloc (.cells #[.int .i64 x4, .int .i64 v1, .int .u64 v2, .int .i64 v3] 24)).cell (i := 1) (v := .int .i64 0) rfl
        have c2 := (HK4.out.alloc (.cells #[.int .i64 x4, .int .i64 v1, .int .u64 v2, .int .i64 v3] 24)).cell (i := 2) (v := .int .u64 0) rfl
        have c3 := (HK4.out.alloc (.cells #[.int .i64 x4, .int .i64 v1, .int .u64 v2, .int .i64 v3] 24)).cell (i := 3) (v := .int .i64 0) rfl
        have z0 := (HK4.out.alloc (.cells #[.int .i64 x4, .int .i64 v1, .int .u64 v2, .int .i64 v3] 24)).free 0
        have z1 := (HK4.out.alloc (.cells #[.int .i64 x4, .int .i64 v1, .int .u64 v2, .int .i64 v3] 24)).free 1
        have z2 := (HK4.out.alloc (.cells #[.int .i64 x4, .int .i64 v1, .int .u64 v2, .int .i64 v3] 24)).free 2
        have z3 := (HK4.out.alloc (.cells #[.int .i64 x4, .int .i64 v1, .int .u64 v2, .int .i64 v3] 24)).free 3
        go_wp2_with fail
        rw [HR.out]
        have rb := setC_blk (HK4.out.alloc (.cells #[.int .i64 x4, .int .i64 v1, .int .u64 v2, .int .i64 v3] 24)) C.zero
        have r0 := rb.cell (i := 0) (v := .int .i64 0) rfl
        have r1 := rb.cell (i := 1) (v := .int .i64 0) rfl
        have r2 := rb.cell (i := 2) (v := .int .u64 0) rfl
        have r3 := rb.cell (i := 3) (v := .int .i64 0) rfl
        unfold setC C.zero at r0 r1 r2 r3
        refine bodyPost_ret (v := .tuple #[.agg #[.int .i64 0, .int .i64 0, .int .u64 0, .int .i64 0], .int .i64 4]) (by simp [results, Tryd.results17, go_sem, r0, r1, r2, r3]) rfl ?_
        exact ⟨rfl, setC_below' (HB4.out.alloc (by first | exact HB4.out.size | (simp; have := HB4.out.size; omega)) (.cells #[.int .i64 x4, .int .i64 v1, .int .u64 v2, .int .i64 v3] 24)) (Nat.le_refl _) C.zero⟩
      subst qx1
      by_cases qx2 : x2 = 0
      rotate_left
      · rw [if_neg (by rw [decide_eq_true_eq]; rintro ⟨g1, g2, g3, g4, g5⟩; exact qx2 g2)] at hr
        have HR := Lib.hid hr
        clear hr
        have bx2 : (x2 != 0) = true := by rw [bne_iff_ne]; exact qx2
        clear qx2
        have c0 := (HK4.out.alloc (.cells #[.int .i64 x4, .int .i64 v1, .int .u64 v2, .int .i64 v3] 24)).cell (i := 0) (v := .int .i64 0) rfl
        have c1 := (HK4.out.alloc (.cells #[.int .i64 x4, .int .i64 v1, .int .u64 v2, .int .i64 v3] 24)).cell (i := 1) (v := .int .i64 0) rfl
        have c2 := (HK4.out.alloc (.cells #[.int .i64 x4, .int .i64 v1, .int .u64 v2, .int .i64 v3] 24)).cell (i := 2) (v := .int .u64 0) rfl
        have c3 := (HK4.out.alloc (.cells #[.int .i64 x4, .int .i64 v1, .int .u64 v2, .int .i64 v3] 24)).cell (i := 3) (v := .int .i64 0) rfl
        have z0 := (HK4.out.alloc (.cells #[.int .i64 x4, .int .i64 v1, .int .u64 v2, .int .i64 v3] 24)).free 0
        have z1 := (HK4.out.alloc (.cells #[.int .i64 x4, .int .i64 v1, .int .u64 v2, .int .i64 v3] 24)).free 1
        have z2 := (HK4.out.alloc (.cells #[.int .i64 x4, .int .i64 v1, .int .u64 v2, .int .i64 v3] 24)).free 2
        have z3 := (HK4.out.alloc (.cells #[.int .i64 x4, .int .i64 v1, .int .u64 v2, .int .i64 v3] 24)).free 3
        go_wp2_with fail
        rw [HR.out]
        have rb := setC_blk (HK4.out.alloc (.cells #[.int .i64 x4, .int .i64 v1, .int .u64 v2, .int .i64 v3] 24)) C.zero
        have r0 := rb.cell (i := 0) (v := .int .i64 0) rfl
        have r1 := rb.cell (i := 1) (v := .int .i64 0) rfl
        have r2 := rb.cell (i := 2) (v := .int .u64 0) rfl
        have r3 := rb.cell (i := 3) (v := .int .i64 0) rfl
        unfold setC C.zero at r0 r1 r2 r3
        refine bodyPost_ret (v := .tuple #[.agg #[.int .i64 0, .int .i64 0, .int .u64 0, .int .i64 0], .int .i64 4]) (by simp [results, Tryd.results17, go_sem, r0, r1, r2, r3]) rfl ?_
        exact ⟨rfl, setC_below' (HB4.out.alloc (by first | exact HB4.out.size | (simp; have := HB4.out.size; omega)) (.cells #[.int .i64 x4, .int .i64 v1, .int .u64 v2, .int .i64 v3] 24)) (Nat.le_refl _) C.zero⟩
      subst qx2
      by_cases qx3 : x3 = 0
      rotate_left
      · rw [if_neg (by rw [decide_eq_true_eq]; rintro ⟨g1, g2, g3, g4, g5⟩; exact qx3 g3)] at hr
        have HR := Lib.hid hr
        clear hr
        have bx3 : (x3 != 0) = true := by rw [bne_iff_ne]; exact qx3
        clear qx3
        have c0 := (HK4.out.alloc (.cells #[.int .i64 x4, .int .i64 v1, .int .u64 v2, .int .i64 v3] 24)).cell (i := 0) (v := .int .i64 0) rfl
        have c1 := (HK4.out.alloc (.cells #[.int .i64 x4, .int .i64 v1, .int .u64 v2, .int .i64 v3] 24)).cell (i := 1) (v := .int .i64 0) rfl
        have c2 := (HK4.out.alloc (.cells #[.int .i64 x4, .int .i64 v1, .int .u64 v2, .int .i64 v3] 24)).cell (i := 2) (v := .int .u64 0) rfl
        have c3 := (HK4.out.alloc (.cells #[.int .i64 x4, .int .i64 v1, .int .u64 v2, .int .i64 v3] 24)).cell (i := 3) (v := .int .i64 0) rfl
        have z0 := (HK4.out.alloc (.cells #[.int .i64 x4, .int .i64 v1, .int .u64 v2, .int .i64 v3] 24)).free 0
        have z1 := (HK4.out.alloc (.cells #[.int .i64 x4, .int .i64 v1, .int .u64 v2, .int .i64 v3] 24)).free 1
        have z2 := (HK4.out.alloc (.cells #[.int .i64 x4, .int .i64 v1, .int .u64 v2, .int .i64 v3] 24)).free 2
        have z3 := (HK4.out.alloc (.cells #[.int .i64 x4, .int .i64 v1, .int .u64 v2, .int .i64 v3] 24)).free 3
        go_wp2_with fail
        rw [HR.out]
        have rb := setC_blk (HK4.out.alloc (.cells #[.int .i64 x4, .int .i64 v1, .int .u64 v2, .int .i64 v3] 24)) C.zero
        have r0 := rb.cell (i := 0) (v := .int .i64 0) rfl
        have r1 := rb.cell (i := 1) (v := .int .i64 0) rfl
        have r2 := rb.cell (i := 2) (v := .int .u64 0) rfl
        have r3 := rb.cell (i := 3) (v := .int .i64 0) rfl
        unfold setC C.zero at r0 r1 r2 r3
        refine bodyPost_ret (v := .tuple #[.agg #[.int .i64 0, .int .i64 0, .int .u64 0, .int .i64 0], .int .i64 4]) (by simp [results, Tryd.results17, go_sem, r0, r1, r2, r3]) rfl ?_
        exact ⟨rfl, setC_below' (HB4.out.alloc (by first | exact HB4.out.size | (simp; have := HB4.out.size; omega)) (.cells #[.int .i64 x4, .int .i64 v1, .int .u64 v2, .int .i64 v3] 24)) (Nat.le_refl _) C.zero⟩
      subst qx3
      by_cases qx4 : x4 = 0
      · rw [if_neg (by rw [decide_eq_true_eq]; rintro ⟨g1, g2, g3, g4, g5⟩; exact g4 qx4)] at hr
        have HR := Lib.hid hr
        clear hr
        have bx4 : (x4 == 0) = true := by rw [beq_iff_eq]; exact qx4
        clear qx4
        have c0 := (HK4.out.alloc (.cells #[.int .i64 x4, .int .i64 v1, .int .u64 v2, .int .i64 v3] 24)).cell (i := 0) (v := .int .i64 0) rfl
        have c1 := (HK4.out.alloc (.cells #[.int .i64 x4, .int .i64 v1, .int .u64 v2, .int .i64 v3] 24)).cell (i := 1) (v := .int .i64 0) rfl
        have c2 := (HK4.out.alloc (.cells #[.int .i64 x4, .int .i64 v1, .int .u64 v2, .int .i64 v3] 24)).cell (i := 2) (v := .int .u64 0) rfl
        have c3 := (HK4.out.alloc (.cells #[.int .i64 x4, .int .i64 v1, .int .u64 v2, .int .i64 v3] 24)).cell (i := 3) (v := .int .i64 0) rfl
        have z0 := (HK4.out.alloc (.cells #[.int .i64 x4, .int .i64 v1, .int .u64 v2, .int .i64 v3] 24)).free 0
        have z1 := (HK4.out.alloc (.cells #[.int .i64 x4, .int .i64 v1, .int .u64 v2, .int .i64 v3] 24)).free 1
        have z2 := (HK4.out.alloc (.cells #[.int .i64 x4, .int .i64 v1, .int .u64 v2, .int .i64 v3] 24)).free 2
        have z3 := (HK4.out.alloc (.cells #[.int .i64 x4, .int .i64 v1, .int .u64 v2, .int .i64 v3] 24)).free 3
        go_wp2_with fail
        rw [HR.out]
        have rb := setC_blk (HK4.out.alloc (.cells #[.int .i64 x4, .int .i64 v1, .int .u64 v2, .int .i64 v3] 24)) C.zero
        have r0 := rb.cell (i := 0) (v := .int .i64 0) rfl
        have r1 := rb.cell (i := 1) (v := .int .i64 0) rfl
        have r2 := rb.cell (i := 2) (v := .int .u64 0) rfl
        have r3 := rb.cell (i := 3) (v := .int .i64 0) rfl
        unfold setC C.zero at r0 r1 r2 r3
        refine bodyPost_ret (v := .tuple #[.agg #[.int .i64 0, .int .i64 0, .int .u64 0, .int .i64 0], .int .i64 4]) (by simp [results, Tryd.results17, go_sem, r0, r1, r2, r3]) rfl ?_
        exact ⟨rfl, setC_below' (HB4.out.alloc (by first | exact HB4.out.size | (simp; have := HB4.out.size; omega)) (.cells #[.int .i64 x4, .int .i64 v1, .int .u64 v2, .int .i64 v3] 24)) (Nat.le_refl _) C.zero⟩
      have bx4 : (x4 == 0) = false := by rw [beq_eq_false_iff_ne]; exact qx4
      by_cases qx5 : x5 = 0
      rotate_left
      · rw [if_neg (by rw [decide_eq_true_eq]; rintro ⟨g1, g2, g3, g4, g5⟩; exact qx5 g5)] at hr
        have HR := Lib.hid hr
        clear hr qx4
        have bx5 : (x5 != 0) = true := by rw [bne_iff_ne]; exact qx5
        clear qx5
        go_wp2_with fail
        refine (HC2 _).out.mono ?_
        rintro e w5 ⟨rfl, rfl⟩
        have c0 := ((HK4.out.alloc (.cells #[.int .i64 x4, .int .i64 v1, .int .u64 v2, .int .i64 v3] 24)).alloc (.cells #[.int .i64 x4, .int .i64 v1, .int .u64 v2, .int .i64 v3] 24)).cell (i := 0) (v := .int .i64 0) rfl
        have c1 := ((HK4.out.alloc (.cells #[.int .i64 x4, .int .i64 v1, .int .u64 v2, .int .i64 v3] 24)).alloc (.cells #[.int .i64 x4, .int .i64 v1, .int .u64 v2, .int .i64 v3] 24)).cell (i := 1) (v := .int .i64 0) rfl
        have c2 := ((HK4.out.alloc (.cells #[.int .i64 x4, .int .i64 v1, .int .u64 v2, .int .i64 v3] 24)).alloc (.cells #[.int .i64 x4, .int .i64 v1, .int .u64 v2, .int .i64 v3] 24)).cell (i := 2) (v := .int .u64 0) rfl
        have c3 := ((HK4.out.alloc (.cells #[.int .i64 x4, .int .i64 v1, .int .u64 v2, .int .i64 v3] 24)).alloc (.cells #[.int .i64 x4, .int .i64 v1, .int .u64 v2, .int .i64 v3] 24)).cell (i := 3) (v := .int .i64 0) rfl
        have z0 := ((HK4.out.alloc (.cells #[.int .i64 x4, .int .i64 v1, .int .u64 v2, .int .i64 v3] 24)).alloc (.cells #[.int .i64 x4, .int .i64 v1, .int .u64 v2, .int .i64 v3] 24)).free 0
        have z1 := ((HK4.out.alloc (.cells #[.int .i64 x4, .int .i64 v1, .int .u64 v2, .int .i64 v3] 24)).alloc (.cells #[.int .i64 x4, .int .i64 v1, .int .u64 v2, .int .i64 v3] 24)).free 1
        have z2 := ((HK4.out.alloc (.cells #[.int .i64 x4, .int .i64 v1, .int .u64 v2, .int .i64 v3] 24)).alloc (.cells #[.int .i64 x4, .int .i64 v1, .int .u64 v2, .int .i64 v3] 24)).free 2
        have z3 := ((HK4.out.alloc (.cells #[.int .i64 x4, .int .i64 v1, .int .u64 v2, .int .i64 v3] 24)).alloc (.cells #[.int .i64 x4, .int .i64 v1, .int .u64 v2, .int .i64 v3] 24)).free 3
        go_wp2_with fail
        rw [HR.out]
        have rb := setC_blk ((HK4.out.alloc (.cells #[.int .i64 x4, .int .i64 v1, .int .u64 v2, .int .i64 v3] 24)).alloc (.cells #[.int .i64 x4, .int .i64 v1, .int .u64 v2, .int .i64 v3] 24)) C.zero
        have r0 := rb.cell (i := 0) (v := .int .i64 0) rfl
        have r1 := rb.cell (i := 1) (v := .int .i64 0) rfl
        have r2 := rb.cell (i := 2) (v := .int .u64 0) rfl
        have r3 := rb.cell (i := 3) (v := .int .i64 0) rfl
        unfold setC C.zero at r0 r1 r2 r3
        refine bodyPost_ret (v := .tuple #[.agg #[.int .i64 0, .int .i64 0, .int .u64 0, .int .i64 0], .int .i64 4]) (by simp [results, Tryd.results17, go_sem, r0, r1, r2, r3]) rfl ?_
        exact ⟨rfl, setC_below' ((HB4.out.alloc (by first | exact HB4.out.size | (simp; have := HB4.out.size; omega)) (.cells #[.int .i64 x4, .int .i64 v1, .int .u64 v2, .int .i64 v3] 24)).alloc (by first | exact HB4.out.size | (simp; have := HB4.out.size; omega)) (.cells #[.int .i64 x4, .int .i64 v1, .int .u64 v2, .int .i64 v3] 24)) (Nat.le_refl _) C.zero⟩
      rw [if_pos (by rw [decide_eq_true_eq]; exact ⟨rfl, rfl, rfl, qx4, qx5⟩)] at hr
      have HR := Lib.hid hr
      clear hr qx4
      subst qx5
      go_wp2_with fail
      refine (HC2 _).out.mono ?_
      rintro e w5 ⟨rfl, rfl⟩
      have c0 := ((HK4.out.alloc (.cells #[.int .i64 x4, .int .i64 v1, .int .u64 v2, .int .i64 v3] 24)).alloc (.cells #[.int .i64 x4, .int .i64 v1, .int .u64 v2, .int .i64 v3] 24)).cell (i := 0) (v := .int .i64 0) rfl
      have c1 := ((HK4.out.alloc (.cells #[.int .i64 x4, .int .i64 v1, .int .u64 v2, .int .i64 v3] 24)).alloc (.cells #[.int .i64 x4, .int .i64 v1, .int .u64 v2, .int .i64 v3] 24)).cell (i := 1) (v := .int .i64 0) rfl
      have c2 := ((HK4.out.alloc (.cells #[.int .i64 x4, .int .i64 v1, .int .u64 v2, .int .i64 v3] 24)).alloc (.cells #[.int .i64 x4, .int .i64 v1, .int .u64 v2, .int .i64 v3] 24)).cell (i := 2) (v := .int .u64 0) rfl
      have c3 := ((HK4.out.alloc (.cells #[.int .i64 x4, .int .i64 v1, .int .u64 v2, .int .i64 v3] 24)).alloc (.cells #[.int .i64 x4, .int .i64 v1, .int .u64 v2, .int .i64 v3] 24)).cell (i := 3) (v := .int .i64 0) rfl
      have z0 := ((HK4.out.alloc (.cells #[.int .i64 x4, .int .i64 v1, .int .u64 v2, .int .i64 v3] 24)).alloc (.cells #[.int .i64 x4, .int .i64 v1, .int .u64 v2, .int .i64 v3] 24)).free 0
      have z1 := ((HK4.out.alloc (.cells #[.int .i64 x4, .int .i64 v1, .int .u64 v2, .int .i64 v3] 24)).alloc (.cells #[.int .i64 x4, .int .i64 v1, .int .u64 v2, .int .i64 v3] 24)).free 1
      have z2 := ((HK4.out.alloc (.cells #[.int .i64 x4, .int .i64 v1, .int .u64 v2, .int .i64 v3] 24)).alloc (.cells #[.int .i64 x4, .int .i64 v1, .int .u64 v2, .int .i64 v3] 24)).free 2
      have z3 := ((HK4.out.alloc (.cells #[.int .i64 x4, .int .i64 v1, .int .u64 v2, .int .i64 v3] 24)).alloc (.cells #[.int .i64 x4, .int .i64 v1, .int .u64 v2, .int .i64 v3] 24)).free 3
      go_wp2_with fail
      rw [HR.out]
      have rb := setC_blk ((HK4.out.alloc (.cells #[.int .i64 x4, .int .i64 v1, .int .u64 v2, .int .i64 v3] 24)).alloc (.cells #[.int .i64 x4, .int .i64 v1, .int .u64 v2, .int .i64 v3] 24)) ⟨x4, v1, v2, v3⟩
      have r0 := rb.cell (i := 0) (v := .int .i64 x4) rfl
      have r1 := rb.cell (i := 1) (v := .int .i64 v1) rfl
      have r2 := rb.cell (i := 2) (v := .int .u64 v2) rfl
      have r3 := rb.cell (i := 3) (v := .int .i64 v3) rfl
      unfold setC at r0 r1 r2 r3
      refine bodyPost_ret (v := .tuple #[.agg #[.int .i64 x4, .int .i64 v1, .int .u64 v2, .int .i64 v3], .int .i64 0]) (by simp [results, Tryd.results17, go_sem, r0, r1, r2, r3]) rfl ?_
      exact ⟨rfl, setC_below' ((HB4.out.alloc (by first | exact HB4.out.size | (simp; have := HB4.out.size; omega)) (.cells #[.int .i64 x4, .int .i64 v1, .int .u64 v2, .int .i64 v3] 24)).alloc (by first | exact HB4.out.size | (simp; have := HB4.out.size; omega)) (.cells #[.int .i64 x4, .int .i64 v1, .int .u64 v2, .int .i64 v3] 24)) (Nat.le_refl _) ⟨x4, v1, v2, v3⟩⟩
    · have HR := Lib.hid (pRes_len h0 (by rw [hlw]; exact h4))
      have f4 : (((L.length : Nat) : Int) != 4) = true := by rw [bne_iff_ne]; omega
      clear hws hl hmem hlw h0 hs hE hk0 h4
      go_enter Tryd.func17, Tryd.ntmps17
      go_wp2_with fail
      refine (HN _ (by go_grown)).out.mono ?_
      rintro e w1 ⟨rfl, rfl⟩
      go_wp2_with fail
      refine (HS _ (by go_grown)).out.mono ?_
      rintro e w1 ⟨rfl, rfl⟩
      have HK1 := Lib.hid (HK.out.alloc (.cells (L.map Value.string).toArray 9))
      have HB1 := Lib.hid (show Below w.heap.size w ((w.alloc (.cells #[.int .i64 0, .int .i64 0, .int .u64 0, .int .i64 0] 24)).alloc (.cells (L.map Value.string).toArray 9)) by go_grown)
      generalize (w.alloc (.cells #[.int .i64 0, .int .i64 0, .int .u64 0, .int .i64 0] 24)).alloc (.cells (L.map Value.string).toArray 9) = W1 at *
      have c0 := HK1.out.cell (i := 0) (v := .int .i64 0) rfl
      have c1 := HK1.out.cell (i := 1) (v := .int .i64 0) rfl
      have c2 := HK1.out.cell (i := 2) (v := .int .u64 0) rfl
      have c3 := HK1.out.cell (i := 3) (v := .int .i64 0) rfl
      have z0 := HK1.out.free 0
      have z1 := HK1.out.free 1
      have z2 := HK1.out.free 2
      have z3 := HK1.out.free 3
      go_wp2_with fail
      rw [HR.out]
      have rb := setC_blk HK1.out C.zero
      have r0 := rb.cell (i := 0) (v := .int .i64 0) rfl
      have r1 := rb.cell (i := 1) (v := .int .i64 0) rfl
      have r2 := rb.cell (i := 2) (v := .int .u64 0) rfl
      have r3 := rb.cell (i := 3) (v := .int .i64 0) rfl
      unfold setC C.zero at r0 r1 r2 r3
      refine bodyPost_ret (v := .tuple #[.agg #[.int .i64 0, .int .i64 0, .int .u64 0, .int .i64 0], .int .i64 4]) (by simp [results, Tryd.results17, go_sem, r0, r1, r2, r3]) rfl ?_
      exact ⟨rfl, setC_below' HB1.out (Nat.le_refl _) C.zero⟩
end Go.Proofs.YtlpkandfmbnlnaaDoor.Txt
