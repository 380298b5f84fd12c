/- cmds.kind, plain, Number. Which texts are digits; the number of digits. The number of digits. -/
import Derived.Test.YtlpkandfmbnlnaaDoorEnv
import Derived.LoopTactic
set_option linter.unusedVariables false
set_option linter.unusedSimpArgs false
set_option maxRecDepth 100000
namespace Go.Proofs.YtlpkandfmbnlnaaDoor.Txt
open Go Go.RowKit Go.Proofs.YtlpkandfmbnlnaaDoor.Str

def kdOf (l : List UInt8) : Int := if l = nmOf 0 then 0 else if l = nmOf 1 then 1 else if l = nmOf 2 then 2 else if l = nmOf 3 then 3 else if l = nmOf 4 then 4 else -1

theorem var_row {w : World} {n : String} {g : Nat} {cs : Array Value} (hg : Tryd.prog.globalNamed n = some g) (h : w.var? Tryd.prog n = some cs) : ∃ t fr, w.heap[g]? = some (.cells cs t fr) := by
  unfold World.var? at h
  simp only [hg, Option.bind_some] at h
  generalize w.heap[g]? = o at h ⊢
  match o, h with
  | some (.cells c t fr), h => exact ⟨t, fr, by rw [Option.some.inj h]⟩
theorem eqb_true {s : ByteArray} {a : List UInt8} (h : s.data.toList = a) : (a == s.toList) = true := by rw [Lib.toList_data, h]; simp
theorem eqb_false {s : ByteArray} {a : List UInt8} (h : ¬ s.data.toList = a) : (a == s.toList) = false := by rw [Lib.toList_data]; simp; exact fun e => h e.symm
set_option maxHeartbeats 4000000 in
theorem kind_any (s : ByteArray) (w : World) (hE : Env w) :
    Calls Tryd.prog 58 #[.string s] w fun e w' => e = .returned (.int .i64 (kdOf s.data.toList)) ∧ w = w' := by
  obtain ⟨t, fr, hrow⟩ := var_row gNames hE.names
  clear hE
  have i0 : ∀ w, (Instr.index 81 (.agg nmC) (.int .i64 0)).run Tryd.prog w = .ok (.string ⟨#[110, 111, 111, 112]⟩) w := fun _ => by kernel_rfl
  have i1 : ∀ w, (Instr.index 81 (.agg nmC) (.int .i64 1)).run Tryd.prog w = .ok (.string ⟨#[114, 101, 109, 111, 118, 101]⟩) w := fun _ => by kernel_rfl
  have i2 : ∀ w, (Instr.index 81 (.agg nmC) (.int .i64 2)).run Tryd.prog w = .ok (.string ⟨#[97, 112, 112, 101, 110, 100]⟩) w := fun _ => by kernel_rfl
  have i3 : ∀ w, (Instr.index 81 (.agg nmC) (.int .i64 3)).run Tryd.prog w = .ok (.string ⟨#[112, 114, 111, 109, 111, 116, 101]⟩) w := fun _ => by kernel_rfl
  have i4 : ∀ w, (Instr.index 81 (.agg nmC) (.int .i64 4)).run Tryd.prog w = .ok (.string ⟨#[115, 101, 116, 116, 108, 101]⟩) w := fun _ => by kernel_rfl
  have hlr : ∀ l : List UInt8, kdOf l = if l = [110, 111, 111, 112] then 0 else if l = [114, 101, 109, 111, 118, 101] then 1 else if l = [97, 112, 112, 101, 110, 100] then 2 else if l = [112, 114, 111, 109, 111, 116, 101] then 3 else if l = [115, 101, 116, 116, 108, 101] then 4 else -1 := fun _ => rfl
  by_cases e0 : s.data.toList = [110, 111, 111, 112]
  · have f0 := eqb_true e0
    have hr : kdOf s.data.toList = 0 := by rw [hlr]; rw [if_pos e0]
    rw [hr]
    clear hr hlr e0
    go_enter Tryd.func58, Tryd.ntmps58
    go_wp2_with (refine wpList_load_row rfl 81 _ rfl 0 rfl t nmC fr _ hrow Tryd.underlying81 rfl (by kernel_rfl) ?_)
    refine wp_loop_rounds 6 ?_
    rw [rounds_succ]
    go_wp2_with fail
    go_ret
    exact ⟨rfl, rfl⟩
  have f0 := eqb_false e0
  by_cases e1 : s.data.toList = [114, 101, 109, 111, 118, 101]
  · have f1 := eqb_true e1
    have hr : kdOf s.data.toList = 1 := by rw [hlr]; rw [if_neg e0]; rw [if_pos e1]
    rw [hr]
    clear hr hlr e0 e1
    go_enter Tryd.func58, Tryd.ntmps58
    go_wp2_with (refine wpList_load_row rfl 81 _ rfl 0 rfl t nmC fr _ hrow Tryd.underlying81 rfl (by kernel_rfl) ?_)
    refine wp_loop_rounds 6 ?_
    rw [rounds_succ]
    go_wp2_with fail
    rw [rounds_succ]
    go_wp2_with fail
    go_ret
    exact ⟨rfl, rfl⟩
  have f1 := eqb_false e1
  by_cases e2 : s.data.toList = [97, 112, 112, 101, 110, 100]
  · have f2 := eqb_true e2
    have hr : kdOf s.data.toList = 2 := by rw [hlr]; rw [if_neg e0]; rw [if_neg e1]; rw [if_pos e2]
    rw [hr]
    clear hr hlr e0 e1 e2
    go_enter Tryd.func58, Tryd.ntmps58
    go_wp2_with (refine wpList_load_row rfl 81 _ rfl 0 rfl t nmC fr _ hrow Tryd.underlying81 rfl (by kernel_rfl) ?_)
    refine wp_loop_rounds 6 ?_
    rw [rounds_succ]
    go_wp2_with fail
    rw [rounds_succ]
    go_wp2_with fail
    rw [rounds_succ]
    go_wp2_with fail
    go_ret
    exact ⟨rfl, rfl⟩
  have f2 := eqb_false e2
  by_cases e3 : s.data.toList = [112, 114, 111, 109, 111, 116, 101]
  · have f3 := eqb_true e3
    have hr : kdOf s.data.toList = 3 := by rw [hlr]; rw [if_neg e0]; rw [if_neg e1]; rw [if_neg e2]; rw [if_pos e3]
    rw [hr]
    clear hr hlr e0 e1 e2 e3
    go_enter Tryd.func58, Tryd.ntmps58
    go_wp2_with (refine wpList_load_row rfl 81 _ rfl 0 rfl t nmC fr _ hrow Tryd.underlying81 rfl (by kernel_rfl) ?_)
    refine wp_loop_rounds 6 ?_
    rw [rounds_succ]
    go_wp2_with fail
    rw [rounds_succ]
    go_wp2_with fail
    rw [rounds_succ]
    go_wp2_with fail
    rw [rounds_succ]
    go_wp2_with fail
    go_ret
    exact ⟨rfl, rfl⟩
  have f3 := eqb_false e3
  by_cases e4 : s.data.toList = [115, 101, 116, 116, 108, 101]
  · have f4 := eqb_true e4
    have hr : kdOf s.data.toList = 4 := by rw [hlr]; rw [if_neg e0]; rw [if_neg e1]; rw [if_neg e2]; rw [if_neg e3]; rw [if_pos e4]
    rw [hr]
    clear hr hlr e0 e1 e2 e3 e4
    go_enter Tryd.func58, Tryd.ntmps58
    go_wp2_with (refine wpList_load_row rfl 81 _ rfl 0 rfl t nmC fr _ hrow Tryd.underlying81 rfl (by kernel_rfl) ?_)
    refine wp_loop_rounds 6 ?_
    rw [rounds_succ]
    go_wp2_with fail
    rw [rounds_succ]
    go_wp2_with fail
    rw [rounds_succ]
    go_wp2_with fail
    rw [rounds_succ]
    go_wp2_with fail
    rw [rounds_succ]
    go_wp2_with fail
    go_ret
    exact ⟨rfl, rfl⟩
  have f4 := eqb_false e4
  have hr : kdOf s.data.toList = -1 := by rw [hlr]; rw [if_neg e0]; rw [if_neg e1]; rw [if_neg e2]; rw [if_neg e3]; rw [if_neg e4]; skip
  rw [hr]
  clear hr hlr e0 e1 e2 e3 e4
  go_enter Tryd.func58, Tryd.ntmps58
  go_wp2_with (refine wpList_load_row rfl 81 _ rfl 0 rfl t nmC fr _ hrow Tryd.underlying81 rfl (by kernel_rfl) ?_)
  refine wp_loop_rounds 6 ?_
  rw [rounds_succ]
  go_wp2_with fail
  rw [rounds_succ]
  go_wp2_with fail
  rw [rounds_succ]
  go_wp2_with fail
  rw [rounds_succ]
  go_wp2_with fail
  rw [rounds_succ]
  go_wp2_with fail
  rw [rounds_succ]
  go_wp2_with fail
  go_ret
  exact ⟨rfl, rfl⟩
end Go.Proofs.YtlpkandfmbnlnaaDoor.Txt

namespace Go.Proofs.YtlpkandfmbnlnaaDoor.Txt
open Go Go.RowKit Go.Proofs.YtlpkandfmbnlnaaDoor.Str

theorem plain_bad (l : List UInt8) (c : UInt8) (h : c ∈ l) (hd : ¬ (48 ≤ c.toNat ∧ c.toNat ≤ 57)) : plain l = false := by
  have h1 : l.all dg = false := by
    rw [List.all_eq_false]
    exact ⟨c, h, by simp [dg]; omega⟩
  unfold plain
  rw [h1]
  simp
theorem plain_zero (l : List UInt8) (h : 1 < l.length) (h0 : l.headD 0 = 48) : plain l = false := by
  unfold plain
  rw [h0]
  simp [h]
theorem plain_end (l : List UInt8) (h : ∀ c, c ∈ l → 48 ≤ c.toNat ∧ c.toNat ≤ 57) (h0 : ¬ (1 < l.length ∧ l.headD 0 = 48)) : plain l = decide (0 < l.length ∧ l.length ≤ 20) := by
  have h1 : l.all dg = true := by
    rw [List.all_eq_true]
    intro c hc
    have := h c hc
    simp [dg, this]
  have hx : (decide (1 < l.length) && l.headD 0 == 48) = false := by
    rw [Bool.eq_false_iff]
    intro h
    rw [Bool.and_eq_true, decide_eq_true_eq, beq_iff_eq] at h
    exact h0 h
  unfold plain
  rw [h1, hx, Bool.and_true, Bool.not_false, Bool.and_true]
theorem mem_at (s : ByteArray) (i : Nat) (h : i < s.size) : s[i]'h ∈ s.data.toList := by
  have : s[i]'h = s.data.toList[i]'(by simpa using h) := rfl
  rw [this]
  exact List.getElem_mem _
theorem take_at (s : ByteArray) (i : Nat) (h : i < s.size) : s.data.toList.take (i + 1) = s.data.toList.take i ++ [s[i]'h] := by
  rw [List.take_succ_eq_append_getElem (by simpa using h)]
  rfl
theorem head_at (s : ByteArray) (h : 0 < s.size) : s.data.toList.headD 0 = s[0]'h := by
  have key : ∀ (l : List UInt8) (hl : 0 < l.length), l.headD 0 = l[0]'hl := fun l hl => by cases l with
    | nil => simp at hl
    | cons a r => rfl
  exact key s.data.toList (by simpa using h)

theorem below_of_iter (w : World) (s : ByteArray) (pos : Nat) : Below w.heap.size w (w.iter s pos) := (Below.refl _ _).alloc (Nat.le_refl _) _
set_option maxHeartbeats 4000000 in
theorem plain_any (s : ByteArray) (w : World) (hs : s.size < 9223372036854775807) :
    Calls Tryd.prog 77 #[.string s] w fun e w' => e = .returned (.bool (plain s.data.toList)) ∧ Below w.heap.size w w' := by
  have hsz : s.data.toList.length = s.size := by simp
  go_enter Tryd.func77, Tryd.ntmps77
  go_wp2_with fail
  go_loopw [3] (fun i wr => ∃ (pos : Nat) (v : Value), pos ≤ s.size ∧ wr = w.iter s pos ∧ i = v ∧ Hid ((∀ c, c ∈ s.data.toList.take pos → 48 ≤ c.toNat ∧ c.toNat ≤ 57) ∧ (0 < pos → ¬ (1 < s.data.toList.length ∧ s.data.toList.headD 0 = 48)))) (fun _ w' => s.size - w'.iterPos w.heap.size)
  case atStart => exact ⟨0, _, by omega, rfl, rfl, by simp, by simp⟩
  case round =>
    obtain ⟨pos, v, hp0, rfl, rfl, hrel⟩ := hrel
    have HR := hrel
    clear hrel
    by_cases hp : pos < s.size
    · have hnx : ∀ ty, (Instr.next (.pointer (some ⟨w.heap.size, 0, none⟩)) true ty).run Tryd.prog (w.iter s pos) = _ := fun ty => run_next_any w s pos ty hp
      have hdec : ((s[pos]'hp).toNat < 128 ∧ (Utf8.decode s pos).1 = (s[pos]'hp).toNat ∧ (Utf8.decode s pos).2 = 1) ∨ (128 ≤ (s[pos]'hp).toNat ∧ 128 ≤ (Utf8.decode s pos).1 ∧ 1 ≤ (Utf8.decode s pos).2) := by
        by_cases ha : (s[pos]'hp).toNat < 128
        · have e := decode_ascii s pos hp ha
          exact .inl ⟨ha, by rw [e], by rw [e]⟩
        · exact .inr ⟨by omega, decode_high s pos hp (by omega)⟩
      have hmem := mem_at s pos hp
      have htk := take_at s pos hp
      have hhd := fun h0 : 0 < s.size => head_at s h0
      generalize hc : s[pos]'hp = c at *
      generalize (Utf8.decode s pos).1 = d at *
      generalize (Utf8.decode s pos).2 = n at *
      by_cases hdg : 48 ≤ d ∧ d ≤ 57
      · have hcd : c.toNat = d ∧ n = 1 := by omega
        obtain ⟨hcd, rfl⟩ := hcd
        have f1 : decide ((d : Int) < 48) = false := by rw [decide_eq_false_iff_not]; omega
        have f2 : decide ((d : Int) > 57) = false := by rw [decide_eq_false_iff_not]; omega
        have HT := Lib.hid (show ∀ x, x ∈ s.data.toList.take (pos + 1) → 48 ≤ x.toNat ∧ x.toNat ≤ 57 from by
          rw [htk]
          intro x hx
          rcases List.mem_append.1 hx with h | h
          · exact HR.out.1 x h
          · rw [List.mem_singleton.1 h]; omega)
        by_cases hz : pos = 0
        · subst hz
          have hh := hhd hp
          rw [hc] at hh
          by_cases hzz : d = 48 ∧ 1 < s.size
          · obtain ⟨rfl, h1⟩ := hzz
            have f3 : decide (((s.size : Nat) : Int) > 1) = true := by rw [decide_eq_true_eq]; omega
            have HP := Lib.hid (plain_zero s.data.toList (by rw [hsz]; exact h1) (by rw [hh]; exact UInt8.toNat_inj.1 hcd))
            clear hdec hmem htk hhd hc hdg hcd hh HT HR h1
            go_wp2_with fail
            go_ret
            exact ⟨by rw [HP.out]; rfl, below_of_iter w s _⟩
          · have hnz : ¬ (1 < s.data.toList.length ∧ s.data.toList.headD 0 = 48) := by
              rw [hsz, hh]
              rintro ⟨h1, h2⟩
              exact hzz ⟨by rw [← hcd, h2]; rfl, h1⟩
            have HN := Lib.hid hnz
            by_cases h48 : d = 48
            · subst h48
              have f3 : decide (((s.size : Nat) : Int) > 1) = false := by rw [decide_eq_false_iff_not]; omega
              clear hdec hmem htk hhd hc hdg hcd hh HR hzz hnz
              go_wp2_with fail
              go_roundw
              case rel => exact ⟨1, _, by omega, rfl, rfl, HT.out, fun _ => HN.out⟩
              case measure => simp; omega
            · have f3 : ((d : Int) == 48) = false := by simp; omega
              clear hdec hmem htk hhd hc hdg hcd hh HR hzz hnz
              go_wp2_with fail
              go_roundw
              case rel => exact ⟨1, _, by omega, rfl, rfl, HT.out, fun _ => HN.out⟩
              case measure => simp; omega
        · have f3 : ((pos : Int) == 0) = false := by simp; omega
          have HN := Lib.hid (HR.out.2 (by omega))
          clear hdec hmem htk hhd hc hdg hcd HR hz
          go_wp2_with fail
          go_roundw
          case rel => exact ⟨pos + 1, _, by omega, rfl, rfl, HT.out, fun _ => HN.out⟩
          case measure => simp; omega
      · have HP := Lib.hid (plain_bad s.data.toList c hmem (by omega))
        by_cases h48 : d < 48
        · have f1 : decide ((d : Int) < 48) = true := by rw [decide_eq_true_eq]; omega
          clear hdec hmem htk hhd hc hdg HR h48
          go_wp2_with fail
          go_ret
          exact ⟨by rw [HP.out]; rfl, below_of_iter w s _⟩
        · have f1 : decide ((d : Int) < 48) = false := by rw [decide_eq_false_iff_not]; omega
          have f2 : decide ((d : Int) > 57) = true := by rw [decide_eq_true_eq]; omega
          clear hdec hmem htk hhd hc hdg HR h48
          go_wp2_with fail
          go_ret
          exact ⟨by rw [HP.out]; rfl, below_of_iter w s _⟩
    · have hnx : ∀ ty, (Instr.next (.pointer (some ⟨w.heap.size, 0, none⟩)) true ty).run Tryd.prog (w.iter s pos) = _ := fun ty => run_next_end w s pos ty hp
      have hps : pos = s.size := by omega
      subst hps
      have hall := HR.out.1
      rw [← hsz, List.take_length] at hall
      by_cases h0 : 0 < s.size
      · have HP := Lib.hid (plain_end s.data.toList hall (HR.out.2 h0))
        rw [hsz] at HP
        clear hall HR
        by_cases h20 : s.size ≤ 20
        · have f1 : decide (0 < s.size ∧ s.size ≤ 20) = true := by simp [h0, h20]
          rw [f1] at HP
          have f2 : decide (((s.size : Nat) : Int) ≤ 20) = true := by rw [decide_eq_true_eq]; omega
          clear f1 h20
          go_wp2_with fail
          go_ret
          exact ⟨by rw [HP.out]; rfl, below_of_iter w s _⟩
        · have f1 : decide (0 < s.size ∧ s.size ≤ 20) = false := by simp [h20]
          rw [f1] at HP
          have f2 : decide (((s.size : Nat) : Int) ≤ 20) = false := by rw [decide_eq_false_iff_not]; omega
          clear f1 h20
          go_wp2_with fail
          go_ret
          exact ⟨by rw [HP.out]; rfl, below_of_iter w s _⟩
      · have HP := Lib.hid (plain_end s.data.toList hall (by rw [hsz]; omega))
        rw [hsz] at HP
        have f1 : decide (0 < s.size ∧ s.size ≤ 20) = false := by simp [h0]
        rw [f1] at HP
        clear hall HR f1
        go_wp2_with fail
        go_ret
        exact ⟨by rw [HP.out]; rfl, below_of_iter w s _⟩
end Go.Proofs.YtlpkandfmbnlnaaDoor.Txt

namespace Go.Proofs.YtlpkandfmbnlnaaDoor.Txt
open Go Go.RowKit Go.Proofs.YtlpkandfmbnlnaaDoor.Str

def nbOk (l : List UInt8) (m : Nat) : Bool := plain l && decide (dv l ≤ 18446744073709551615 ∧ dv l ≤ m)
def nbV (l : List UInt8) (m : Nat) : Nat := if nbOk l m = true then dv l else 0
def nbE (l : List UInt8) (m : Nat) : Int := if plain l = false then 4 else if nbOk l m = true then 0 else 6
theorem below_bytes (w : World) (t : TypeId) (s : ByteArray) : Below w.heap.size w (Lib.bytesWorld w t s) := Joins.below_bytesWorld _ _ _ _ (Nat.le_refl _)
set_option maxHeartbeats 1000000 in
theorem number_any (s : ByteArray) (m : Nat) (w : World) (hE : Env w) (hs : s.size ≤ 281474976710656) (hm : m < 18446744073709551616) :
    Calls Tryd.prog 45 #[.string s, .int .u64 m] w fun e w' => e = .returned (.tuple #[.int .u64 (nbV s.data.toList m), .int .i64 (nbE s.data.toList m)]) ∧ Below w.heap.size w w' := by
  have HP := Lib.hid (plain_any s w (by omega))
  have HEb := fun W (h : Below w.heap.size w W) => Lib.hid (hE.below h)
  have hpp := parse_plain s.data.toList
  generalize hl : s.data.toList = l at *
  by_cases hp : plain l = true
  · rw [hp] at HP
    by_cases h64 : dv l ≤ 18446744073709551615
    · have hok := hpp hp
      rw [if_pos h64] at hok
      have HU := fun W => Lib.hid (Tryd.strconv_ParseUint_10_at64_ok s (by omega) (dv l) (by rw [hl]; exact hok) W)
      by_cases hmm : dv l ≤ m
      · have e1 : nbOk l m = true := by simp [nbOk, hp, h64, hmm]
        have HV := Lib.hid (show nbV l m = dv l from if_pos e1)
        have HE := Lib.hid (show nbE l m = 0 by unfold nbE; rw [if_neg (by simp [hp]), if_pos e1])
        have b1 : decide (m < dv l) = false := by rw [decide_eq_false_iff_not]; omega
        clear hE hpp hp hok e1 hl hmm
        generalize dv l = d at *
        go_enter Tryd.func45, Tryd.ntmps45
        go_wp2_with fail
        refine HP.out.mono ?_
        rintro e w1 ⟨rfl, hb⟩
        have HB := Lib.hid hb
        clear hb
        go_wp2_with fail
        refine (HU _).out.mono ?_
        rintro e w2 ⟨rfl, hw⟩
        have HB2 := Lib.hid (show Below w1.heap.size w1 w2 by
          rcases hw with rfl | rfl
          · exact Below.refl _ _
          · exact below_bytes _ _ _)
        clear hw
        go_wp2_with fail
        go_ret2
        exact ⟨by rw [HV.out, HE.out]; rfl, HB.out.trans (HB2.out.mono HB.out.size)⟩
      · have e1 : nbOk l m = false := by simp [nbOk, hp, h64]; omega
        have HV := Lib.hid (show nbV l m = 0 from if_neg (by simp [e1]))
        have HE := Lib.hid (show nbE l m = 6 by unfold nbE; rw [if_neg (by simp [hp]), if_neg (by simp [e1])])
        have b1 : decide (m < dv l) = true := by rw [decide_eq_true_eq]; omega
        clear hE hpp hp hok e1 hl hmm
        generalize dv l = d at *
        go_enter Tryd.func45, Tryd.ntmps45
        go_wp2_with fail
        refine HP.out.mono ?_
        rintro e w1 ⟨rfl, hb⟩
        have HB := Lib.hid hb
        clear hb
        go_wp2_with fail
        refine (HU _).out.mono ?_
        rintro e w2 ⟨rfl, hw⟩
        have HB2 := Lib.hid (show Below w1.heap.size w1 w2 by
          rcases hw with rfl | rfl
          · exact Below.refl _ _
          · exact below_bytes _ _ _)
        clear hw
        go_wp2_with fail
        go_ret2
        exact ⟨by rw [HV.out, HE.out]; rfl, HB.out.trans (HB2.out.mono HB.out.size)⟩
    · have hok := hpp hp
      rw [if_neg h64] at hok
      have e1 : nbOk l m = false := by simp [nbOk, h64]
      have HV := Lib.hid (show nbV l m = 0 from if_neg (by simp [e1]))
      have HE := Lib.hid (show nbE l m = 6 by unfold nbE; rw [if_neg (by simp [hp]), if_neg (by simp [e1])])
      have HU : ∀ W (h : Below w.heap.size w W), Hid (Calls Tryd.prog 78 #[.string s, .int .i64 10, .int .i64 64] W fun e w' => ∃ (N : Nat) (ti : TypeId), e = .returned (.tuple #[.int .u64 18446744073709551615, .iface ti (.pointer (some ⟨N, 0, none⟩))]) ∧ Below W.heap.size W w') := fun W h => Lib.hid (by
        obtain ⟨tp, p, hr⟩ := (HEb W h).out.range
        refine (Tryd.strconv_ParseUint_10_at64_range_var s (by omega) (by rw [hl]; exact hok) tp p W hr).mono ?_
        rintro e w' ⟨N, rfl, _, _, hb⟩
        exact ⟨N, _, rfl, hb⟩)
      clear hE hpp hp hok e1 hl
      generalize dv l = d at *
      go_enter Tryd.func45, Tryd.ntmps45
      go_wp2_with fail
      refine HP.out.mono ?_
      rintro e w1 ⟨rfl, hb⟩
      have HB := Lib.hid hb
      clear hb
      go_wp2_with fail
      refine (HU _ HB.out).out.mono ?_
      rintro e w2 ⟨N, ti, rfl, hb⟩
      have HB2 := Lib.hid hb
      clear hb
      go_wp2_with fail
      go_ret2
      exact ⟨by rw [HV.out, HE.out]; rfl, HB.out.trans (HB2.out.mono HB.out.size)⟩
  · have hp0 : plain l = false := by simpa using hp
    rw [hp0] at HP
    have HV := Lib.hid (show nbV l m = 0 from if_neg (by simp [nbOk, hp0]))
    have HE := Lib.hid (show nbE l m = 4 by unfold nbE; rw [if_pos hp0])
    clear hE hpp hp hp0 hl
    go_enter Tryd.func45, Tryd.ntmps45
    go_wp2_with fail
    refine HP.out.mono ?_
    rintro e w1 ⟨rfl, hb⟩
    have HB := Lib.hid hb
    clear hb
    go_wp2_with fail
    go_ret2
    exact ⟨by rw [HV.out, HE.out]; rfl, HB.out⟩
end Go.Proofs.YtlpkandfmbnlnaaDoor.Txt
