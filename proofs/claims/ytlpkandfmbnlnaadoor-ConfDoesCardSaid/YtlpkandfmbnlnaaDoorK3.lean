/- What the proof of the claim leans on, of these texts: Opn, GClone, Q1, Q5; only what is used. -/
import Derived.BigQuiet
import Derived.Carry
import Derived.ChangeSame
import Derived.ChangeSlices
import Derived.Deep.Fields
import Derived.Deep.RegionWith
import Derived.Deep.Slices
import Derived.Handy
import Derived.Laws.StructEq
import Derived.Lib.SliceRun
import Derived.LoopTactic
import Derived.OpenShut
import Derived.Test.YtlpkandfmbnlnaaDoorK1
import Derived.Test.YtlpkandfmbnlnaaDoorK2
namespace Go.Proofs.YtlpkandfmbnlnaaDoor
end Go.Proofs.YtlpkandfmbnlnaaDoor
namespace Go.Proofs.YtlpkandfmbnlnaaDoor.Cmd
end Go.Proofs.YtlpkandfmbnlnaaDoor.Cmd
namespace Go.Proofs.YtlpkandfmbnlnaaDoor.Fix
end Go.Proofs.YtlpkandfmbnlnaaDoor.Fix
namespace Go.Proofs.YtlpkandfmbnlnaaDoor.Laid
end Go.Proofs.YtlpkandfmbnlnaaDoor.Laid
namespace Go.Proofs.YtlpkandfmbnlnaaDoor.Mem
end Go.Proofs.YtlpkandfmbnlnaaDoor.Mem
namespace Go.Proofs.YtlpkandfmbnlnaaDoor.Num
end Go.Proofs.YtlpkandfmbnlnaaDoor.Num
namespace Go.Proofs.YtlpkandfmbnlnaaDoor.Opn
end Go.Proofs.YtlpkandfmbnlnaaDoor.Opn
namespace Go.Proofs.YtlpkandfmbnlnaaDoor.Q
end Go.Proofs.YtlpkandfmbnlnaaDoor.Q
namespace Go.Proofs.YtlpkandfmbnlnaaDoor.R
end Go.Proofs.YtlpkandfmbnlnaaDoor.R
namespace Go.Proofs.YtlpkandfmbnlnaaDoor.Ref
end Go.Proofs.YtlpkandfmbnlnaaDoor.Ref
namespace Go.Proofs.YtlpkandfmbnlnaaDoor.Str
end Go.Proofs.YtlpkandfmbnlnaaDoor.Str
namespace Go.Proofs.YtlpkandfmbnlnaaDoor.Txt
end Go.Proofs.YtlpkandfmbnlnaaDoor.Txt
namespace Go.Proofs.YtlpkandfmbnlnaaDoor.confDoes
end Go.Proofs.YtlpkandfmbnlnaaDoor.confDoes
namespace Go.Proofs.YtlpkandfmbnlnaaDoorW.PrintLast
end Go.Proofs.YtlpkandfmbnlnaaDoorW.PrintLast
namespace Go.Proofs.YtlpkandfmbnlnaaDoorW.PrintMore
end Go.Proofs.YtlpkandfmbnlnaaDoorW.PrintMore
namespace Go.Proofs.YtlpkandfmbnlnaaDoorW.PrintWords
end Go.Proofs.YtlpkandfmbnlnaaDoorW.PrintWords
section
set_option linter.unusedVariables false
set_option linter.unusedSimpArgs false
set_option maxRecDepth 100000
namespace Go.Proofs.YtlpkandfmbnlnaaDoor.Opn
open Go Go.RowKit Go.Proofs.YtlpkandfmbnlnaaDoor.Q Go.Proofs.YtlpkandfmbnlnaaDoorW.PrintWords Go.Proofs.YtlpkandfmbnlnaaDoorW.PrintLast Go.Proofs.YtlpkandfmbnlnaaDoorW.PrintMore
open Go.ChangeShapes Go.WideShapes Go.ChangeAt Go.Deep
theorem fields_at {H : Type} {enc : TypeId × Value → H} {P : Program} {w : World} {base : Nat} {spare : Nat → Bool} {held : Bool} {t e : TypeId} {fs : Array Field} {a0 : Option Addr} {len cap : Nat} {d : DataW H} {p : List MemPlace}
    (ht : P.underlying t = some (.slice e)) (he : P.underlying e = some (.struct fs)) (hone : oneCellFields P fs = true) (hC : P.cellsOf e = fs.size) (h0 : 0 < fs.size) (hl : 0 < len)
    (h : DataW.Trod enc P w base spare held t (.slice a0 len cap) d p) :
    ∃ b off : Nat, a0 = some ⟨b, off, none⟩ ∧ ∀ i, i < len → ∃ n, ∀ (j : Nat) (f : Field), fs[j]? = some f → ∃ v y, w.cell? ⟨b, off + (i * fs.size + j), none⟩ = some v ∧ DataW.trod enc P w base spare held n f.type [v] = some y := by
  obtain ⟨fuel, hf⟩ := h
  rcases open_slice ht hf with ⟨hcs, _⟩ | ⟨a, l, c, m, n, D, Pl, hcs, _, hlc, _, hm, _, hel⟩
  · simp [Value.cells] at hcs
    omega
  · simp [Value.cells] at hcs
    obtain ⟨rfl, rfl, rfl⟩ := hcs
    have hlm : len ≤ m := by rw [hm]; split <;> omega
    have one : ∀ i, i < len → ∃ n, ∀ (j : Nat) (f : Field), fs[j]? = some f → ∃ v y, w.cell? (a.add (i * fs.size + j)) = some v ∧ DataW.trod enc P w base spare held n f.type [v] = some y := by
      intro i hi
      obtain ⟨cs, hc, hr⟩ := hel i (by omega)
      rw [hC] at hc
      obtain ⟨ys, k, _, _, hlen, hyl, hfl⟩ := DataW.trod_struct he hr
      obtain ⟨_, hcl, hat⟩ := World.cells?_some hc
      refine ⟨k, fun j f hj => ?_⟩
      have hjs : j < fs.size := (Array.getElem?_eq_some_iff.1 hj).1
      obtain ⟨ho, hk⟩ := hone_of hone j f hj
      have hcell := hat j hjs
      have h1 := hfl j f hj
      rw [ho, hk, List.drop_eq_getElem_cons (show j < cs.length by omega), List.take_succ_cons, List.take_zero, List.getElem?_eq_getElem (show j < ys.length by omega)] at h1
      refine ⟨cs[j]'(by omega), ys[j]'(by omega), ?_, h1⟩
      rw [← Go.Deep.add_add, hcell, List.getElem?_eq_getElem (show j < cs.length by omega)]
    have hpl : a.spot = none := by
      obtain ⟨k, hk⟩ := one 0 hl
      obtain ⟨v, _, hv, _⟩ := hk 0 fs[0] (Array.getElem?_eq_getElem h0)
      rw [Nat.zero_mul, Nat.zero_add, Addr.add_zero'] at hv
      unfold World.cell? at hv
      cases hs : a.spot with
      | none => rfl
      | some x =>
        rw [hs] at hv
        revert hv
        split <;> simp
    obtain ⟨b, off, spot⟩ := a
    subst hpl
    refine ⟨b, off, rfl, fun i hi => ?_⟩
    obtain ⟨k, hk⟩ := one i hi
    refine ⟨k, fun j f hj => ?_⟩
    have := hk j f hj
    rwa [Addr.add_lit] at this
abbrev laid3 : List (String × DataW Unit) := Rows.confIsRow.laid
theorem env3 {W : World} (h : laidMetH Tryd.prog laid3 W) : Q.EnvP W := by
  rw [MakeChecks.laidMetH_plain _ _ _ (by kernel_rfl)] at h
  obtain ⟨ps, ⟨g0, t0, cs0, f0, p0, q0, hg0, ht0, hv0, hd0, ⟨g1, t1, cs1, f1, p1, q1, hg1, ht1, hv1, hd1, ⟨g2, t2, cs2, f2, p2, q2, hg2, ht2, hv2, hd2, _, _⟩, _⟩, _⟩, _, _⟩ := h
  refine ⟨?_⟩
  obtain rfl := Option.some.inj (Txt.gPow.symm.trans hg2)
  obtain rfl := Option.some.inj ((show (Tryd.prog.globals[1]?).map (·.type) = some 161 by kernel_rfl).symm.trans ht2)
  have := Laid.cs_of_arr (Laid.gInt .u64) Tryd.underlying161 (by kernel_rfl) (by kernel_rfl) (Laid.ho_int Tryd.underlying22) hd2
  unfold Lib.TabIs
  rw [hv2]
  obtain ⟨l⟩ := cs2
  obtain rfl : l = _ := this
  rfl
section
variable {H : Type} {enc : TypeId × Value → H} {W : World} {base : Nat} {sp : Nat → Bool} {held : Bool}
theorem ints_C {n : Nat} {v : Value} {y : DataW H × List MemPlace} (h : DataW.trod enc Tryd.prog W base sp held n 52 [v] = some y) : ∃ (A : Option Addr) (c : Nat) (xs : List Int), v = .slice A xs.length c ∧ xs.length ≤ c ∧ Kd.C (Kd.int .i64) W A xs.length xs := by
  rcases open_ints Tryd.underlying52 Tryd.underlying3 (by kernel_rfl) h with ⟨hcs, _⟩ | ⟨x, l, c, zs, hcs, _, hl, hm, hz, _, hcell, hwz⟩
  · have e : v = _ := (List.cons.inj hcs).1
    exact ⟨none, 0, [], e, Nat.le_refl _, Kd.C_nil _ _⟩
  · have e : v = _ := (List.cons.inj hcs).1
    have hlz : l ≤ zs.length := by rw [hz]; split <;> omega
    have hlen : (zs.take l).length = l := by rw [List.length_take]; omega
    refine ⟨some x, c, zs.take l, by rw [hlen]; exact e, by rw [hlen]; exact hl, ?_⟩
    rw [hlen]
    refine Kd.C_of_reads (d := (0 : Int)) (h1 := fun _ => rfl) ⟨hlen, by simp only [maxLen] at hm; omega, fun hp => ⟨x, rfl, fun j hj => ?_⟩⟩
    rw [hcell j (by omega)]
    simp [List.getD_eq_getElem?_getD, List.getElem?_take, hj]
theorem slice_len {t e : TypeId} {a0 : Option Addr} {len cap : Nat} {d : DataW H} {p : List MemPlace} (ht : Tryd.prog.underlying t = some (.slice e)) (h : DataW.Trod enc Tryd.prog W base sp held t (.slice a0 len cap) d p) : len ≤ cap ∧ len ≤ 9223372036854775807 := by
  obtain ⟨fuel, hf⟩ := h
  rcases DataW.trod_slice ht hf with ⟨hcs, _⟩ | ⟨a, l, c, elems, rest, n, _, hcs, _, _, hl, hm, _⟩
  · simp [Value.cells] at hcs
    omega
  · simp [Value.cells] at hcs
    simp only [maxLen] at hm
    omega
theorem u64_of {x : Int} (h : (Lit.int .u64 x).wf = true) : 0 ≤ x ∧ x < 18446744073709551616 := by
  simp only [Lit.wf, Bool.and_eq_true, decide_eq_true_eq] at h
  have h2 : 0 ≤ x ∧ x ≤ 18446744073709551615 := h
  omega
open Classical in
theorem confs_at {a0 : Option Addr} {len cap : Nat} {d : DataW H} {p : List MemPlace} (h : DataW.Trod enc Tryd.prog W base sp held 43 (.slice a0 len cap) d p) :
    ∃ l : List S54, l.length = len ∧ len ≤ cap ∧ Kd.C k54 W a0 l.length l ∧ ∀ y ∈ l, 0 ≤ y.f1 ∧ y.f1 < 18446744073709551616 := by
  obtain ⟨hcap, hmax⟩ := slice_len Tryd.underlying43 h
  by_cases h0 : len = 0
  · subst h0
    exact ⟨[], rfl, hcap, ⟨rfl, by simp, fun hp => absurd hp (by simp)⟩, fun y hy => by cases hy⟩
  · obtain ⟨b, off, rfl, hat⟩ := fields_at Tryd.underlying43 Tryd.underlying54 (by kernel_rfl) (by kernel_rfl) (by decide) (by omega) h
    have hex : ∀ i, i < len → ∃ z : S54, ∃ (A2 : Option Addr) (c2 : Nat), z.f2.length ≤ c2 ∧ Kd.C (Kd.int .i64) W A2 z.f2.length z.f2 ∧ W.cell? ⟨b, off + (i * 5 + 0), none⟩ = some (.int .i64 z.f0) ∧ W.cell? ⟨b, off + (i * 5 + 1), none⟩ = some (.int .u64 z.f1) ∧ W.cell? ⟨b, off + (i * 5 + 2), none⟩ = some (.slice A2 z.f2.length c2) ∧ W.cell? ⟨b, off + (i * 5 + 3), none⟩ = some (.bool z.f3) ∧ W.cell? ⟨b, off + (i * 5 + 4), none⟩ = some (.int .i64 z.f4) ∧ 0 ≤ z.f1 ∧ z.f1 < 18446744073709551616 := by
      intro i hi
      obtain ⟨n, hn⟩ := hat i hi
      obtain ⟨v0, y0, c0, t0⟩ := hn 0 _ rfl
      obtain ⟨v1, y1, c1, t1⟩ := hn 1 _ rfl
      obtain ⟨v2, y2, c2, t2⟩ := hn 2 _ rfl
      obtain ⟨v3, y3, c3, t3⟩ := hn 3 _ rfl
      obtain ⟨v4, y4, c4, t4⟩ := hn 4 _ rfl
      obtain ⟨x0, e0, _, _⟩ := DataW.trod_int Tryd.underlying3 t0
      obtain ⟨x1, e1, _, w1⟩ := DataW.trod_int Tryd.underlying22 t1
      obtain ⟨A2, k2, x2, e2, l2, g2⟩ := ints_C t2
      obtain ⟨x3, e3, _⟩ := DataW.trod_bool Tryd.underlying4 t3
      obtain ⟨x4, e4, _, _⟩ := DataW.trod_int Tryd.underlying3 t4
      simp at e0 e1 e3 e4
      subst e0
      subst e1
      subst e2
      subst e3
      subst e4
      have h2 := u64_of w1
      exact ⟨⟨x0, x1, x2, x3, x4⟩, A2, k2, l2, g2, c0, c1, c2, c3, c4, h2.1, h2.2⟩
    let g : Nat → S54 := fun i => if h : i < len then Classical.choose (hex i h) else z54
    have hg : ∀ i (hi : i < len), g i = Classical.choose (hex i hi) := fun i hi => dif_pos hi
    refine ⟨(List.range len).map g, by simp, hcap, ⟨rfl, by simpa using hmax, fun _ => ⟨⟨b, off, none⟩, rfl, fun j p hj => ?_⟩⟩, fun y hy => ?_⟩
    · obtain ⟨hjl, hjp⟩ := List.getElem?_eq_some_iff.1 hj
      have hjl' : j < len := by simpa using hjl
      have hpj : p = g j := by rw [← hjp]; simp
      obtain ⟨A2, c2, l2, g2, u0, u1, u2, u3, u4, _⟩ := Classical.choose_spec (hex j hjl')
      rw [← hg j hjl', ← hpj] at l2 g2 u0 u1 u2 u3 u4
      refine ⟨_, rfl, k54_mk W p l2 g2, fun i u hu => ?_⟩
      show W.cell? (Addr.add ⟨b, off, none⟩ (j * 5 + i)) = some u
      rw [Addr.add_lit]
      match i, hu with
      | 0, hu => obtain rfl := Option.some.inj hu; exact u0
      | 1, hu => obtain rfl := Option.some.inj hu; exact u1
      | 2, hu => obtain rfl := Option.some.inj hu; exact u2
      | 3, hu => obtain rfl := Option.some.inj hu; exact u3
      | 4, hu => obtain rfl := Option.some.inj hu; exact u4
      | n + 5, hu => cases hu
    · obtain ⟨i, hi, rfl⟩ := List.mem_map.1 hy
      have hi' : i < len := by simpa using hi
      obtain ⟨A2, c2, l2, g2, u0, u1, u2, u3, u4, r0, r1⟩ := Classical.choose_spec (hex i hi')
      rw [hg i hi']
      exact ⟨r0, r1⟩
open Classical in
theorem cmds_at {a0 : Option Addr} {len cap : Nat} {d : DataW H} {p : List MemPlace} (h : DataW.Trod enc Tryd.prog W base sp held 44 (.slice a0 len cap) d p) :
    ∃ l : List S24, l.length = len ∧ len ≤ cap ∧ Kd.C k24 W a0 l.length l ∧ ∀ y ∈ l, 0 ≤ y.f2 := by
  obtain ⟨hcap, hmax⟩ := slice_len Tryd.underlying44 h
  by_cases h0 : len = 0
  · subst h0
    exact ⟨[], rfl, hcap, ⟨rfl, by simp, fun hp => absurd hp (by simp)⟩, fun y hy => by cases hy⟩
  · obtain ⟨b, off, rfl, hat⟩ := fields_at Tryd.underlying44 Tryd.underlying24 (by kernel_rfl) (by kernel_rfl) (by decide) (by omega) h
    have hex : ∀ i, i < len → ∃ z : S24, W.cell? ⟨b, off + (i * 4 + 0), none⟩ = some (.int .i64 z.f0) ∧ W.cell? ⟨b, off + (i * 4 + 1), none⟩ = some (.int .i64 z.f1) ∧ W.cell? ⟨b, off + (i * 4 + 2), none⟩ = some (.int .u64 z.f2) ∧ W.cell? ⟨b, off + (i * 4 + 3), none⟩ = some (.int .i64 z.f3) ∧ 0 ≤ z.f2 := by
      intro i hi
      obtain ⟨n, hn⟩ := hat i hi
      obtain ⟨v0, y0, c0, t0⟩ := hn 0 _ rfl
      obtain ⟨v1, y1, c1, t1⟩ := hn 1 _ rfl
      obtain ⟨v2, y2, c2, t2⟩ := hn 2 _ rfl
      obtain ⟨v3, y3, c3, t3⟩ := hn 3 _ rfl
      obtain ⟨x0, e0, _, _⟩ := DataW.trod_int Tryd.underlying3 t0
      obtain ⟨x1, e1, _, _⟩ := DataW.trod_int Tryd.underlying3 t1
      obtain ⟨x2, e2, _, w2⟩ := DataW.trod_int Tryd.underlying22 t2
      obtain ⟨x3, e3, _, _⟩ := DataW.trod_int Tryd.underlying3 t3
      simp at e0 e1 e2 e3
      subst e0
      subst e1
      subst e2
      subst e3
      exact ⟨⟨x0, x1, x2, x3⟩, c0, c1, c2, c3, (u64_of w2).1⟩
    let g : Nat → S24 := fun i => if h : i < len then Classical.choose (hex i h) else z24
    have hg : ∀ i (hi : i < len), g i = Classical.choose (hex i hi) := fun i hi => dif_pos hi
    refine ⟨(List.range len).map g, by simp, hcap, ⟨rfl, by simpa using hmax, fun _ => ⟨⟨b, off, none⟩, rfl, fun j p hj => ?_⟩⟩, fun y hy => ?_⟩
    · obtain ⟨hjl, hjp⟩ := List.getElem?_eq_some_iff.1 hj
      have hjl' : j < len := by simpa using hjl
      have hpj : p = g j := by rw [← hjp]; simp
      obtain ⟨u0, u1, u2, u3, _⟩ := Classical.choose_spec (hex j hjl')
      rw [← hg j hjl', ← hpj] at u0 u1 u2 u3
      refine ⟨_, rfl, k24_mk W p, fun i u hu => ?_⟩
      show W.cell? (Addr.add ⟨b, off, none⟩ (j * 4 + i)) = some u
      rw [Addr.add_lit]
      match i, hu with
      | 0, hu => obtain rfl := Option.some.inj hu; exact u0
      | 1, hu => obtain rfl := Option.some.inj hu; exact u1
      | 2, hu => obtain rfl := Option.some.inj hu; exact u2
      | 3, hu => obtain rfl := Option.some.inj hu; exact u3
      | n + 4, hu => cases hu
    · obtain ⟨i, hi, rfl⟩ := List.mem_map.1 hy
      have hi' : i < len := by simpa using hi
      obtain ⟨u0, u1, u2, u3, r0⟩ := Classical.choose_spec (hex i hi')
      rw [hg i hi']
      exact r0
end
end Go.Proofs.YtlpkandfmbnlnaaDoor.Opn
end
section
namespace Go.Proofs.YtlpkandfmbnlnaaDoor.Q
open Go.RowKit Go.Proofs.YtlpkandfmbnlnaaDoor.Q Go.Proofs.YtlpkandfmbnlnaaDoorW.PrintWords Go.Proofs.YtlpkandfmbnlnaaDoorW.PrintLast Go.Proofs.YtlpkandfmbnlnaaDoorW.PrintMore
set_option linter.unusedVariables false
set_option linter.unusedSimpArgs false
theorem q27 (w : World) (a : Option Addr) (n c n' c' : Nat) : (binOp .eql 52 (.slice a n c) (.slice none n' c')).run Tryd.prog w = .ok (.bool a.isNone) w := Lib.run_eql_slice_nil w _ _ a n c n' c' Tryd.underlying52
def slices_Clone_int_int.f (a0 : List Int) : Option (List Int) := if a0.length < 17592186044416 then some a0 else none
set_option maxRecDepth 100000 in
theorem slices_Clone_int_int.calls (A0 : Option Addr) (c0 : Nat) (l0 : List Int) (r : List Int) (w : World) (hr0 : Kd.C (Kd.int .i64) w A0 l0.length l0) (hc0 : l0.length ≤ c0) (h : slices_Clone_int_int.f l0 = some r) :
  Calls Tryd.prog 93 #[.slice A0 l0.length c0] w fun e w' => ∃ v0_ : Value, e = .returned (v0_) ∧ Kd.R (Kd.int .i64) 3 w' w.heap.size (fun _ => True) v0_ r ∧ Below w.heap.size w w' := by
 unfold slices_Clone_int_int.f at h
 by_cases hl : l0.length < 17592186044416
 ·rw [if_pos hl] at h
  obtain rfl := Option.some.inj h
  clear h
  have hq := q27
  rcases A0 with _ | ad
  ·have hl0 : l0 = [] := by
    rcases Nat.eq_zero_or_pos l0.length with h0 | h0
    ·exact List.eq_nil_of_length_eq_zero h0
    ·obtain ⟨ad, e, _⟩ := hr0.2.2 h0
     cases e
   subst hl0
   clear hr0 hc0
   go_enter Tryd.func93, Tryd.ntmps93
   go_wp2_with fail
   go_ret
   exact ⟨_, rfl, Kd.R_nil _ _ _ _ _, Below.refl _ _⟩
  ·have HR := Aside0.mk (Kd.C_below hr0 (below_alloc (Below.refl _ _) (.cells #[] 3)))
   have HL := Aside0.mk hl
   have HO : Aside0 (Kd.R (Kd.int .i64) 3 (w.alloc (.cells #[] 3)) w.heap.size (fun _ => True) (.slice (some ⟨w.heap.size, 0, none⟩) 0 0) []) := Aside0.mk ⟨fun _ _ => trivial, OwnRow.lit (ps := ([] : List Int)) w w.heap.size (Reps.none _ _) (Nat.le_refl _) (by simp)⟩
   clear hr0 hl
   go_enter Tryd.func93, Tryd.ntmps93
   go_wp2_with (at_builtin; refine Kd.R_append_rows (Kd.int .i64) (w0 := w) w.heap.size rfl (.tmp 5) (.tmp 6) 52 3 (.int .i64 0) 8 rfl Tryd.underlying52 info3 rfl (by decide) (by omega) (.slice (some ⟨w.heap.size, 0, none⟩) 0 0) ([] : List Int) l0 _ _ _ (fun _ => True) (fun _ => False) rfl rfl ?aO ?aR (fun _ _ h => h) (fun _ h => h.elim) ?aF ?aB ?aS ?aL ?_; (case aR => exact HR.out); (case aB => exact below_alloc (Below.refl _ _) _); (case aF => exact (fun _ _ => trivial)); (case aO => exact HO.out); (case aS => simp); (case aL => have := HL.out; simp; omega); intro v244 w11 ho hb hg hat; have HO2 := Aside0.mk ho; have HB2 := Aside0.mk hb; clear ho hb hg hat)
   go_ret
   exact ⟨_, rfl, by simpa using HO2.out, HB2.out⟩
 ·rw [if_neg hl] at h
  cases h
end Go.Proofs.YtlpkandfmbnlnaaDoor.Q
end
section
namespace Go.Proofs.YtlpkandfmbnlnaaDoor.Q
end Go.Proofs.YtlpkandfmbnlnaaDoor.Q
namespace Go.Proofs.YtlpkandfmbnlnaaDoor.R
end Go.Proofs.YtlpkandfmbnlnaaDoor.R
namespace Go.Proofs.YtlpkandfmbnlnaaDoor.Q
open Go.RowKit Go.Proofs.YtlpkandfmbnlnaaDoorW.PrintWords Go.Proofs.YtlpkandfmbnlnaaDoorW.PrintLast Go.Proofs.YtlpkandfmbnlnaaDoorW.PrintMore
attribute [local go_sem] max2_int min2_int max_two min_two max_three min_three max_four min_four   -- for this text's walks alone
set_option linter.unusedVariables false
set_option linter.unusedSimpArgs false
open Go.Proofs.YtlpkandfmbnlnaaDoor.Q Go.Proofs.YtlpkandfmbnlnaaDoor.R
def catenarylaw09_few.l0 : Nat → List (S54) → Int → Option (Bool)
 | 0, _, _ => none
 | k + 1, x0, x3 => if x3 < (x0.length : Int) then (if 0 ≤ x3 then (if (((rd_T54 x0 x3).f2).length : Int) > 30 then (some false) else (catenarylaw09_few.l0 k x0 (wrap64 (x3 + 1)))) else (none)) else (some (decide ((x0.length : Int) ≤ 6)))
def catenarylaw09_few.f (k : Nat) (l0 : List (S54)) : Option (Bool) := catenarylaw09_few.l0 k l0 0
set_option maxHeartbeats 8000000 in
set_option maxRecDepth 100000 in
theorem catenarylaw09_few.calls (k : Nat) (A0 : Option Addr) (c0 : Nat) (l0 : List (S54)) (r : Bool) (w : World) (hr0 : Kd.C k54 w A0 l0.length l0) (hc0 : l0.length ≤ c0) (h : catenarylaw09_few.f k l0 = some r) :
  Calls Tryd.prog 23 #[.slice A0 l0.length c0] w fun e w' => e = .returned (.bool r) ∧ Drawn0 w w' := by
 have HR0 := am_ hr0
 have HC0 := am_ hc0
 clear hr0 hc0
 have H : (catenarylaw09_few.l0 k l0 0) = some r := h
 clear h
 have H' := am_ H
 clear H
 go_enter Tryd.func23, Tryd.ntmps23
 go_wp2
 go_loopg [3] k (fun kq v3 w' => ∃ (x3_1 : Int), v3 = .int .i64 x3_1 ∧ Aside0 (catenarylaw09_few.l0 kq l0 x3_1 = some r) ∧ Aside0 (kq ≤ k) ∧ Drawn0 w w')
 case atStart => exact ⟨(0), (by first | rfl | (simp; done) | (simp [*]; done)), H', ⟨Nat.le_refl _⟩, by repeat (first | exact Drawn0.refl _ | apply Drawn0.step)⟩
 case round =>
  clear H'
  obtain ⟨x3_1, rfl, HA, HK1, ⟨m1, rfl⟩⟩ := hrel
  cases gk with
  | zero => exact absurd HA.out (by simp [catenarylaw09_few.l0])
  | succ k1 =>
   have H := HA.out
   clear HA
   simp only [catenarylaw09_few.l0] at H
   by_cases c2 : x3_1 < (l0.length : Int)
   ·rw [if_pos c2] at H
    have c2b0 : decide (x3_1 < (l0.length : Int)) = true := decide_eq_true c2
    clear c2
    by_cases c3 : 0 ≤ x3_1
    ·rw [if_pos c3] at H
     have c3b0 : decide (0 ≤ x3_1) = true := decide_eq_true c3
     clear c3
     by_cases c4 : (((rd_T54 l0 x3_1).f2).length : Int) > 30
     ·rw [if_pos c4] at H
      have c4b0 : decide (30 < (((rd_T54 l0 x3_1).f2).length : Int)) = true := decide_eq_true c4
      have c4b1 : decide (30 < ((rd_T54 l0 x3_1).f2).length) = true := decide_eq_true (by omega)
      clear c4
      obtain rfl := Option.some.inj H
      have p101 : 0 ≤ (x3_1 : Int) := od_ (by first | (with_reducible assumption) | assumption)
      have q101 : x3_1 < (l0.length : Int) := od_ (by first | (with_reducible assumption) | assumption)
      obtain ⟨ad101, A101_2, c101_2, e101, hx101_0, hx101_1, hx101_2, hx101_3, hx101_4, hl101_2, hi101_2⟩ := at_T54 HR0.out x3_1 p101 q101
      cases e101
      have HR101_2 := am_ hi101_2
      have HC101_2 := am_ hl101_2
      clear hi101_2 hl101_2
      replace p101 := eq_true p101
      replace q101 := eq_true q101
      go_wp2
      go_ret
      exact ⟨by first | rfl | (simp; done) | (simp [*]; done), by repeat (first | exact Drawn0.refl _ | apply Drawn0.step)⟩
     ·rw [if_neg c4] at H
      have c4b0 : decide (30 < (((rd_T54 l0 x3_1).f2).length : Int)) = false := decide_eq_false c4
      have c4b1 : decide (30 < ((rd_T54 l0 x3_1).f2).length) = false := decide_eq_false (by omega)
      clear c4
      have H' := am_ H
      clear H
      have p101 : 0 ≤ (x3_1 : Int) := od_ (by first | (with_reducible assumption) | assumption)
      have q101 : x3_1 < (l0.length : Int) := od_ (by first | (with_reducible assumption) | assumption)
      obtain ⟨ad101, A101_2, c101_2, e101, hx101_0, hx101_1, hx101_2, hx101_3, hx101_4, hl101_2, hi101_2⟩ := at_T54 HR0.out x3_1 p101 q101
      cases e101
      have HR101_2 := am_ hi101_2
      have HC101_2 := am_ hl101_2
      clear hi101_2 hl101_2
      replace p101 := eq_true p101
      replace q101 := eq_true q101
      go_wp2
      go_roundg k1
      case measure => have := HK1.out; omega
      case rel => exact ⟨(wrap64 (x3_1 + 1)), (by first | rfl | (simp; done) | (simp [*]; done)), H', ⟨by have := HK1.out; omega⟩, by repeat (first | exact Drawn0.refl _ | apply Drawn0.step)⟩
    ·rw [if_neg c3] at H
     exact absurd H (by simp)
   ·rw [if_neg c2] at H
    have c2b0 : decide (x3_1 < (l0.length : Int)) = false := decide_eq_false c2
    clear c2
    obtain rfl := Option.some.inj H
    go_wp2
    go_ret
    exact ⟨by first | rfl | (simp; done) | (simp [*]; done), by repeat (first | exact Drawn0.refl _ | apply Drawn0.step)⟩
def conf_own.f (a0_0 : Int) (a0_1 : Int) (l0_2 : List Int) (a0_3 : Bool) (a0_4 : Int) : Option (Int × Int × List Int × Bool × Int) := (slices_Clone_int_int.f l0_2).bind fun t104 => (some (a0_0, a0_1, t104, a0_3, a0_4))
set_option maxHeartbeats 8000000 in
set_option maxRecDepth 100000 in
theorem conf_own.calls (a0_0 : Int) (a0_1 : Int) (A0_2 : Option Addr) (c0_2 : Nat) (l0_2 : List Int) (a0_3 : Bool) (a0_4 : Int) (r1 : Int) (r2 : Int) (r3 : List Int) (r4 : Bool) (r5 : Int) (w : World) (hr0_2 : Kd.C (Kd.int .i64) w A0_2 l0_2.length l0_2) (hc0_2 : l0_2.length ≤ c0_2) (h : conf_own.f a0_0 a0_1 l0_2 a0_3 a0_4 = some (r1, r2, r3, r4, r5)) :
  Calls Tryd.prog 62 #[.agg #[.int .i64 a0_0, .int .u64 a0_1, .slice A0_2 l0_2.length c0_2, .bool a0_3, .int .i64 a0_4]] w fun e w' => ∃ v2_ : Value, e = .returned (.agg #[.int .i64 r1, .int .u64 r2, v2_, .bool r4, .int .i64 r5]) ∧ Kd.R (Kd.int .i64) 3 w' w.heap.size (fun _ => True) v2_ r3 ∧ Below w.heap.size w w' := by
 have hu54 := Tryd.underlying54
 have HR0_2 := am_ hr0_2
 have HC0_2 := am_ hc0_2
 clear hr0_2 hc0_2
 have HB := am_ (Below.refl w.heap.size w)
 have H : ((slices_Clone_int_int.f l0_2).bind fun t104 => (some (a0_0, a0_1, t104, a0_3, a0_4))) = some (r1, r2, r3, r4, r5) := h
 clear h
 replace H := Option.bind_eq_some_iff.mp H
 obtain ⟨t104, A20, H⟩ := H
 replace H : (some (a0_0, a0_1, t104, a0_3, a0_4)) = some (r1, r2, r3, r4, r5) := H
 have A2 := am_ A20
 clear A20
 simp only [Option.some.injEq, Prod.mk.injEq] at H
 obtain ⟨rfl, rfl, rfl, rfl, rfl⟩ := H
 go_enter Tryd.func62, Tryd.ntmps62
 go_wp2_with (first | ((with_reducible refine gate_dst (N := 1) rfl ?_); refine box_event ?hg (N := 1) ?hd (cs := #[.int .i64 a0_0, .int .u64 a0_1, .slice A0_2 l0_2.length c0_2, .bool a0_3, .int .i64 a0_4]) (t := 54) ?hr ?_; (case hd => rfl); (case hg => rfl); (case hr => first | (go_simp; done) | (go_simp; rfl)); intro gb102 hg w3 hbox hb; have n0_ := am_ (bt_ (by repeat (first | (with_reducible first | exact HB.out | apply ba_ | apply bn_ | apply bd_) | exact HB.out)) hb); have n1_ := am_ (hbox); have n2_ := am_ ((by rw [hg]; exact (bs_ (by repeat (first | (with_reducible first | exact HB.out | apply ba_ | apply bn_ | apply bd_) | exact HB.out))) : w.heap.size ≤ gb102)); have n3_ := am_ ((by rw [hg]; exact (bs_ (by repeat (first | (with_reducible first | exact HB.out | apply ba_ | apply bn_ | apply bd_) | exact HB.out))) : w.heap.size ≤ gb102)); clear HB; have HB := n0_; have BK102 := n1_; have GW102 := n2_; have GE102 := n3_; clear n0_ n1_ n2_ n3_; clear hb hbox hg) | ((with_reducible refine gate_dst (N := 2) rfl ?_); refine box_event ?hg (N := 2) ?hd (cs := #[.int .i64 0, .int .u64 0, .slice none 0 0, .bool false, .int .i64 0]) (t := 54) ?hr ?_; (case hd => rfl); (case hg => rfl); (case hr => first | (go_simp; done) | (go_simp; rfl)); intro gb103 hg w4 hbox hb; have n0_ := am_ (blk_below (g := gb102) (o := .cells #[.int .i64 a0_0, .int .u64 a0_1, .slice A0_2 l0_2.length c0_2, .bool a0_3, .int .i64 a0_4] 54 (0, 0)) (by (with_reducible repeat (first | refine bw_ ?_ _ | refine bx_ ?_ | refine bl_ ?_ _)); exact BK102.out) hb); have n1_ := am_ (bt_ (by repeat (first | (with_reducible first | exact HB.out | apply ba_ | apply bn_ | apply bd_ | refine be_ ?_ GE102.out) | exact HB.out)) hb); have n2_ := am_ (hbox); have n3_ := am_ ((by rw [hg]; exact (bs_ (by repeat (first | (with_reducible first | exact HB.out | apply ba_ | apply bn_ | apply bd_ | refine be_ ?_ GE102.out) | exact HB.out))) : w.heap.size ≤ gb103)); have n4_ := am_ ((by rw [hg]; exact (bs_ (by repeat (first | (with_reducible first | exact HB.out | apply ba_ | apply bn_ | apply bd_ | refine be_ ?_ GE102.out) | exact HB.out))) : w.heap.size ≤ gb103)); have n5_ := am_ ((by rw [hg]; exact Nat.ne_of_lt (blk_lt (g := gb102) (o := .cells #[.int .i64 a0_0, .int .u64 a0_1, .slice A0_2 l0_2.length c0_2, .bool a0_3, .int .i64 a0_4] 54 (0, 0)) (by (with_reducible repeat (first | refine bw_ ?_ _ | refine bx_ ?_ | refine bl_ ?_ _)); exact BK102.out)) : gb102 ≠ gb103)); have n6_ := am_ ((by rw [hg]; exact Nat.ne_of_gt (blk_lt (g := gb102) (o := .cells #[.int .i64 a0_0, .int .u64 a0_1, .slice A0_2 l0_2.length c0_2, .bool a0_3, .int .i64 a0_4] 54 (0, 0)) (by (with_reducible repeat (first | refine bw_ ?_ _ | refine bx_ ?_ | refine bl_ ?_ _)); exact BK102.out)) : gb103 ≠ gb102)); clear BK102; clear HB; have BK102 := n0_; have HB := n1_; have BK103 := n2_; have GW103 := n3_; have GE103 := n4_; have NB102_103 := n5_; have NB103_102 := n6_; clear n0_ n1_ n2_ n3_ n4_ n5_ n6_; clear hb hbox hg; have hnb5 := NB102_103.out; have hnc5 := NB103_102.out; have hcz6_0 : w4.cell? ⟨gb102, 0, none⟩ = some (.int .i64 a0_0) := (bc_ BK102.out 0).trans rfl; have hcz6_1 : w4.cell? ⟨gb102, 1, none⟩ = some (.int .u64 a0_1) := (bc_ BK102.out 1).trans rfl; have hcz6_2 : w4.cell? ⟨gb102, 2, none⟩ = some (.slice A0_2 l0_2.length c0_2) := (bc_ BK102.out 2).trans rfl; have hcz6_3 : w4.cell? ⟨gb102, 3, none⟩ = some (.bool a0_3) := (bc_ BK102.out 3).trans rfl; have hcz6_4 : w4.cell? ⟨gb102, 4, none⟩ = some (.int .i64 a0_4) := (bc_ BK102.out 4).trans rfl; have hfz6_0 := bf_ BK102.out 0; have hfz6_1 := bf_ BK102.out 1; have hfz6_2 := bf_ BK102.out 2; have hfz6_3 := bf_ BK102.out 3; have hfz6_4 := bf_ BK102.out 4) | ((with_reducible refine gate_callee (f := 93) rfl ?_); refine goesL_ (some 5) rfl rfl Tryd.func93 (by kernel_rfl) rfl #[.slice A0_2 l0_2.length c0_2] rfl (by (try simp only [List.map_toArray, List.map_cons, List.map_nil]); first | done | rfl | (simp only [List.length_drop, lt_]; rfl)) ?_; (with_reducible refine (slices_Clone_int_int.calls _ _ l0_2 t104 _ ?side1 ?side2 A2.out).mono ?_); (case side1 => repeat (first | exact (Kd.C_below HR0_2.out HB.out) | (with_reducible refine Kd.C_alloc ?_ _) | (with_reducible refine Kd.C_drewN ?_ _) | (with_reducible refine Kd.C_drew ?_))); (case side2 => exact HC0_2.out); rintro e w7 ⟨v105, rfl, ho0, hb⟩; refine ⟨_, rfl, ?_⟩; have n0_ := am_ (Kd.R_lower ho0 (bs_ (by repeat (first | (with_reducible first | exact HB.out | apply ba_ | apply bn_ | apply bd_ | refine be_ ?_ GE102.out | refine be_ ?_ GE103.out) | exact HB.out)))); have n1_ := am_ (blk_below (g := gb102) (o := .cells #[.int .i64 a0_0, .int .u64 a0_1, .slice A0_2 l0_2.length c0_2, .bool a0_3, .int .i64 a0_4] 54 (0, 0)) (by (with_reducible repeat (first | refine bw_ ?_ _ | refine bx_ ?_ | refine bl_ ?_ _)); exact BK102.out) hb); have n2_ := am_ (blk_below (g := gb103) (o := .cells #[.int .i64 0, .int .u64 0, .slice none 0 0, .bool false, .int .i64 0] 54 (0, 0)) (by (with_reducible repeat (first | refine bw_ ?_ _ | refine bx_ ?_ | refine bl_ ?_ _)); exact BK103.out) hb); have n3_ := am_ (bt_ (by repeat (first | (with_reducible first | exact HB.out | apply ba_ | apply bn_ | apply bd_ | refine be_ ?_ GE102.out | refine be_ ?_ GE103.out) | exact HB.out)) hb); clear BK102; clear BK103; clear HB; have HO106 := n0_; have BK102 := n1_; have BK103 := n2_; have HB := n3_; clear n0_ n1_ n2_ n3_; (try clear hb); (try clear hb2); (try clear hk); (try clear hi); (try clear ho0); obtain ⟨Ao8, co8, eo8⟩ := Kd.R_slice HO106.out; subst eo8; have hcz9_0 : w7.cell? ⟨gb102, 0, none⟩ = some (.int .i64 a0_0) := (bc_ BK102.out 0).trans rfl; have hcz9_1 : w7.cell? ⟨gb102, 1, none⟩ = some (.int .u64 a0_1) := (bc_ BK102.out 1).trans rfl; have hcz9_2 : w7.cell? ⟨gb102, 2, none⟩ = some (.slice A0_2 l0_2.length c0_2) := (bc_ BK102.out 2).trans rfl; have hcz9_3 : w7.cell? ⟨gb102, 3, none⟩ = some (.bool a0_3) := (bc_ BK102.out 3).trans rfl; have hcz9_4 : w7.cell? ⟨gb102, 4, none⟩ = some (.int .i64 a0_4) := (bc_ BK102.out 4).trans rfl; have hfz9_0 := bf_ BK102.out 0; have hfz9_1 := bf_ BK102.out 1; have hfz9_2 := bf_ BK102.out 2; have hfz9_3 := bf_ BK102.out 3; have hfz9_4 := bf_ BK102.out 4; have hcz10_0 : w7.cell? ⟨gb103, 0, none⟩ = some (.int .i64 0) := (bc_ BK103.out 0).trans rfl; have hcz10_1 : w7.cell? ⟨gb103, 1, none⟩ = some (.int .u64 0) := (bc_ BK103.out 1).trans rfl; have hcz10_2 : w7.cell? ⟨gb103, 2, none⟩ = some (.slice none 0 0) := (bc_ BK103.out 2).trans rfl; have hcz10_3 : w7.cell? ⟨gb103, 3, none⟩ = some (.bool false) := (bc_ BK103.out 3).trans rfl; have hcz10_4 : w7.cell? ⟨gb103, 4, none⟩ = some (.int .i64 0) := (bc_ BK103.out 4).trans rfl; have hfz10_0 := bf_ BK103.out 0; have hfz10_1 := bf_ BK103.out 1; have hfz10_2 := bf_ BK103.out 2; have hfz10_3 := bf_ BK103.out 3; have hfz10_4 := bf_ BK103.out 4))
 refine bodyPost_ret (results_cell_row rfl _ _ gb103 54 #[.int .i64 a0_0, .int .u64 a0_1, .slice Ao8 t104.length co8, .bool a0_3, .int .i64 a0_4] (0, 0) _ rfl (by (with_reducible repeat (first | refine bw_ ?_ _ | refine bx_ ?_ | refine bl_ ?_ _)); refine blk_put (cs := #[.int .i64 a0_0, .int .u64 a0_1, .slice Ao8 t104.length co8, .bool a0_3, .int .i64 0]) ?_ 4 _ rfl; (with_reducible repeat (first | refine bw_ ?_ _ | refine bx_ ?_ | refine bl_ ?_ _)); refine blk_put (cs := #[.int .i64 a0_0, .int .u64 a0_1, .slice Ao8 t104.length co8, .bool false, .int .i64 0]) ?_ 3 _ rfl; (with_reducible repeat (first | refine bw_ ?_ _ | refine bx_ ?_ | refine bl_ ?_ _)); refine blk_put (cs := #[.int .i64 a0_0, .int .u64 a0_1, .slice none 0 0, .bool false, .int .i64 0]) ?_ 2 _ rfl; (with_reducible repeat (first | refine bw_ ?_ _ | refine bx_ ?_ | refine bl_ ?_ _)); refine blk_put (cs := #[.int .i64 a0_0, .int .u64 0, .slice none 0 0, .bool false, .int .i64 0]) ?_ 1 _ rfl; (with_reducible repeat (first | refine bw_ ?_ _ | refine bx_ ?_ | refine bl_ ?_ _)); refine blk_put (cs := #[.int .i64 0, .int .u64 0, .slice none 0 0, .bool false, .int .i64 0]) ?_ 0 _ rfl; (with_reducible repeat (first | refine bw_ ?_ _ | refine bx_ ?_ | refine bl_ ?_ _)); refine blk_far ?_ NB103_102.out _; (with_reducible repeat (first | refine bw_ ?_ _ | refine bx_ ?_ | refine bl_ ?_ _)); exact BK103.out) Tryd.underlying54 rfl (by kernel_rfl)) rfl ?_
 exact ⟨_, by first | rfl | (simp [errW_none, errW_some] <;> rfl) | (simp [*, errW_none, errW_some] <;> rfl), by (with_reducible repeat (first | apply Kd.R_alloc | apply Kd.R_drewN | apply Kd.R_drew)); exact Kd.R_mono (Kd.R_far (p := ⟨gb103, 4, none⟩) (Kd.R_far (p := ⟨gb103, 3, none⟩) (Kd.R_far (p := ⟨gb103, 2, none⟩) (Kd.R_far (p := ⟨gb103, 1, none⟩) (Kd.R_far (p := ⟨gb103, 0, none⟩) (Kd.R_far (p := ⟨gb102, 2, none⟩) (Kd.R_types (Kd.R_types HO106.out BK102.out (by decide)) BK103.out (by decide)) (fun _ hk => hk.1.2) (.slice Ao8 t104.length co8)) (fun _ hk => hk.2) (.int .i64 a0_0)) (fun _ hk => hk.2) (.int .u64 a0_1)) (fun _ hk => hk.2) (.slice Ao8 t104.length co8)) (fun _ hk => hk.2) (.bool a0_3)) (fun _ hk => hk.2) (.int .i64 a0_4)) (fun _ hk => trivial), by repeat (first | (with_reducible first | exact HB.out | apply ba_ | apply bn_ | apply bd_ | refine be_ ?_ GE102.out | refine be_ ?_ GE103.out) | exact HB.out)⟩
def conf_Copy.l0 : Nat → List (S54) → List (S54) → Int → Int → Option ((List (S54)))
 | 0, _, _, _, _ => none
 | k + 1, x3, x9, x10, x11 => if x11 < x10 then (if 0 ≤ x11 then (if x11 < (x9.length : Int) then ((conf_own.f ((rd_T54 x9 x11).f0) ((rd_T54 x9 x11).f1) ((rd_T54 x9 x11).f2) ((rd_T54 x9 x11).f3) ((rd_T54 x9 x11).f4)).bind fun bt112 => (if x11 < (x3.length : Int) then (conf_Copy.l0 k (x3.set (x11 : Int).toNat (⟨bt112.1, bt112.2.1, bt112.2.2.1, bt112.2.2.2.1, bt112.2.2.2.2⟩ : S54)) x9 x10 (wrap64 (x11 + 1))) else (none))) else (none)) else (none)) else (some x3)
def conf_Copy.f (k : Nat) (l0 : List (S54)) : Option ((List (S54))) := if 0 ≤ (l0.length : Int) then (if ((l0.length : Int) : Int).toNat ≤ 5026338869833 then (conf_Copy.l0 k (List.replicate ((l0.length : Int) : Int).toNat z54) l0 (l0.length : Int) 0) else (none)) else (none)
set_option maxHeartbeats 8000000 in
set_option maxRecDepth 100000 in
theorem conf_Copy.calls (k : Nat) (A0 : Option Addr) (c0 : Nat) (l0 : List (S54)) (r : List (S54)) (w : World) (hr0 : Kd.C k54 w A0 l0.length l0) (hc0 : l0.length ≤ c0) (h : conf_Copy.f k l0 = some r) :
  Calls Tryd.prog 25 #[.slice A0 l0.length c0] w fun e w' => ∃ v0_ : Value, e = .returned (v0_) ∧ Kd.S k54 54 w' w.heap.size (fun _ => True) v0_ r ∧ Below w.heap.size w w' := by
 have hu54 := Tryd.underlying54
 have HR0 := am_ hr0
 have HC0 := am_ hc0
 clear hr0 hc0
 have HB := am_ (Below.refl w.heap.size w)
 have H : (if 0 ≤ (l0.length : Int) then (if ((l0.length : Int) : Int).toNat ≤ 5026338869833 then (conf_Copy.l0 k (List.replicate ((l0.length : Int) : Int).toNat z54) l0 (l0.length : Int) 0) else (none)) else (none)) = some r := h
 clear h
 by_cases c2 : 0 ≤ (l0.length : Int)
 ·rw [if_pos c2] at H
  have c2b0 := eq_true c2
  have c2b1 : decide (0 ≤ (l0.length : Int)) = true := decide_eq_true c2
  clear c2
  by_cases c3 : ((l0.length : Int) : Int).toNat ≤ 5026338869833
  ·rw [if_pos c3] at H
   have c3b0 := eq_true c3
   have c3b1 : decide (((l0.length : Int) : Int).toNat ≤ 5026338869833) = true := decide_eq_true c3
   clear c3
   obtain ⟨y107, hy107⟩ : ∃ y_ : List (S54), y_ = (List.replicate ((l0.length : Int) : Int).toNat z54) := ⟨_, rfl⟩
   replace H : (conf_Copy.l0 k y107 l0 (l0.length : Int) 0) = some r := by first | (rw [hy107]; with_reducible exact H) | (have H2_ := (ob_ _ _).symm.trans H; rw [hy107]; with_reducible exact H2_) | (have H2_ := (ob_ _ _).symm.trans H; with_reducible exact H2_) | with_reducible exact H | (rw [hy107]; exact H) | exact H
   have Ny107 := am_ hy107
   clear hy107
   have H' := am_ H
   clear H
   go_enter Tryd.func25, Tryd.ntmps25
   go_wp2_with (first | ((with_reducible refine gate_dst (N := 8) rfl ?_); refine Kd.S_make k54 _ 54 rfl (N := 8) rfl 43 _ _ rfl (l0.length : Int) rfl rfl Tryd.underlying43 (.agg #[(.int .i64 0), (.int .u64 0), (.slice none 0 0), (.bool false), (.int .i64 0)]) 56 info54 rfl (by decide) (by omega) z54 (ok := fun _ => True) (okp := fun _ => True) (k54_mkM _ _ _ z54 (Kd.R_nil _ _ _ _ _)) (fun _ hk => hk) trivial (od_ (by first | (with_reducible assumption) | assumption)) (Nat.le_trans (Nat.mul_le_mul_right _ (od_ (by first | (with_reducible assumption) | assumption) : (l0.length : Int).toNat ≤ 5026338869833)) (by omega)) (Below.refl _ _) (Nat.le_refl _) ?_; intro v108 w4 ho5 hb hg_ hnew_; clear hg_ hnew_; (first | rw [← Ny107.out] at ho5 | (simp only [Int.reduceToNat] at ho5; rw [← Ny107.out] at ho5)); have n0_ := am_ (Kd.S_lower ho5 (bs_ (by repeat (first | (with_reducible first | exact HB.out | apply ba_ | apply bn_ | apply bd_) | exact HB.out)))); have n1_ := am_ (bt_ (by repeat (first | (with_reducible first | exact HB.out | apply ba_ | apply bn_ | apply bd_) | exact HB.out)) hb); clear HB; have HO109 := n0_; have HB := n1_; clear n0_ n1_; clear hb ho5))
   go_loopg [11] k (fun kq v11 w' => ∃ (x3_1 : List (S54)) (x11_1 : Int), v11 = .int .i64 x11_1 ∧ Aside0 (conf_Copy.l0 kq x3_1 l0 (l0.length : Int) x11_1 = some r) ∧ Aside0 (kq ≤ k) ∧ Aside0 (Kd.S k54 54 w' w.heap.size (fun _ => True) v108 x3_1) ∧ Aside0 (Below w.heap.size w w'))
   case atStart => exact ⟨(y107), (0), (by first | rfl | (simp; done) | (simp [*]; done)), H', ⟨Nat.le_refl _⟩, ⟨by (with_reducible repeat (first | apply Kd.S_alloc | apply Kd.S_drewN | apply Kd.S_drew)); exact HO109.out⟩, ⟨by repeat (first | (with_reducible first | exact HB.out | apply ba_ | apply bn_ | apply bd_) | exact HB.out)⟩⟩
   case round =>
    clear H'
    try clear c2
    try clear c2b0
    try clear c2b1
    try clear p2
    try clear c3
    try clear c3b0
    try clear c3b1
    obtain ⟨x3_1, x11_1, rfl, HA, HK1, HO_3, HB⟩ := hrel
    cases gk with
    | zero => exact absurd HA.out (by simp [conf_Copy.l0])
    | succ k1 =>
     have H := HA.out
     clear HA
     simp only [conf_Copy.l0] at H
     by_cases c6 : x11_1 < (l0.length : Int)
     ·rw [if_pos c6] at H
      have c6b0 : decide (x11_1 < (l0.length : Int)) = true := decide_eq_true c6
      clear c6
      by_cases c7 : 0 ≤ x11_1
      ·rw [if_pos c7] at H
       have c7b0 : decide (0 ≤ x11_1) = true := decide_eq_true c7
       clear c7
       by_cases c8 : x11_1 < (l0.length : Int)
       ·rw [if_pos c8] at H
        have c8b0 : decide (x11_1 < (l0.length : Int)) = true := decide_eq_true c8
        clear c8
        replace H := Option.bind_eq_some_iff.mp H
        obtain ⟨⟨t112, t113, t114, t117, t118⟩, A90, H⟩ := H
        replace H : (if x11_1 < (x3_1.length : Int) then (conf_Copy.l0 k1 (x3_1.set (x11_1 : Int).toNat (⟨t112, t113, t114, t117, t118⟩ : S54)) l0 (l0.length : Int) (wrap64 (x11_1 + 1))) else (none)) = some r := H
        have A9 := am_ A90
        clear A90
        by_cases c10 : x11_1 < (x3_1.length : Int)
        ·rw [if_pos c10] at H
         have c10b0 : decide (x11_1 < (x3_1.length : Int)) = true := decide_eq_true c10
         clear c10
         obtain ⟨y119, hy119⟩ : ∃ y_ : List (S54), y_ = (x3_1.set (x11_1 : Int).toNat (⟨t112, t113, t114, t117, t118⟩ : S54)) := ⟨_, rfl⟩
         replace H : (conf_Copy.l0 k1 y119 l0 (l0.length : Int) (wrap64 (x11_1 + 1))) = some r := by first | (rw [hy119]; with_reducible exact H) | (have H2_ := (ob_ _ _).symm.trans H; rw [hy119]; with_reducible exact H2_) | (have H2_ := (ob_ _ _).symm.trans H; with_reducible exact H2_) | with_reducible exact H | (rw [hy119]; exact H) | exact H
         have Ny119 := am_ hy119
         clear hy119
         have H' := am_ H
         clear H
         have p110 : 0 ≤ (x11_1 : Int) := od_ (by first | (with_reducible assumption) | assumption)
         have q110 : x11_1 < (l0.length : Int) := od_ (by first | (with_reducible assumption) | assumption)
         obtain ⟨ad110, A110_2, c110_2, e110, hx110_0, hx110_1, hx110_2, hx110_3, hx110_4, hl110_2, hi110_2⟩ := at_T54 HR0.out x11_1 p110 q110
         cases e110
         replace hx110_0 := (HB.out.cell (cl_ w _ hx110_0)).trans hx110_0
         replace hx110_1 := (HB.out.cell (cl_ w _ hx110_1)).trans hx110_1
         replace hx110_2 := (HB.out.cell (cl_ w _ hx110_2)).trans hx110_2
         replace hx110_3 := (HB.out.cell (cl_ w _ hx110_3)).trans hx110_3
         replace hx110_4 := (HB.out.cell (cl_ w _ hx110_4)).trans hx110_4
         have HR110_2 := am_ hi110_2
         have HC110_2 := am_ hl110_2
         clear hi110_2 hl110_2
         replace p110 := eq_true p110
         replace q110 := eq_true q110
         go_wp2_with (first | ((with_reducible refine gate_dst (N := 5) rfl ?_); refine box_event ?hg (N := 5) ?hd (cs := #[.int .i64 0, .int .u64 0, .slice none 0 0, .bool false, .int .i64 0]) (t := 54) ?hr ?_; (case hd => rfl); (case hg => rfl); (case hr => first | (go_simp; done) | (go_simp; rfl)); intro gb111 hg w12 hbox hb; have n0_ := am_ (Kd.S_below (Kd.S_elderB (by (with_reducible repeat (first | apply Kd.S_alloc | apply Kd.S_drewN | apply Kd.S_drew)); exact HO_3.out) gb111 (Nat.le_of_eq hg.symm)) hb); have n1_ := am_ (bt_ (by repeat (first | (with_reducible first | exact HB.out | apply ba_ | apply bn_ | apply bd_) | exact HB.out)) hb); have n2_ := am_ (hbox); have n3_ := am_ ((by rw [hg]; exact (bs_ (by repeat (first | (with_reducible first | exact HB.out | apply ba_ | apply bn_ | apply bd_) | exact HB.out))) : w.heap.size ≤ gb111)); have n4_ := am_ ((by rw [hg]; exact (bs_ (by repeat (first | (with_reducible first | exact HB.out | apply ba_ | apply bn_ | apply bd_) | exact HB.out))) : w.heap.size ≤ gb111)); clear HO_3; clear HB; have HO_3 := n0_; have HB := n1_; have BK111 := n2_; have GW111 := n3_; have GE111 := n4_; clear n0_ n1_ n2_ n3_ n4_; clear hb hbox hg; have hcz13_0 : w12.cell? ⟨gb111, 0, none⟩ = some (.int .i64 0) := (bc_ BK111.out 0).trans rfl; have hcz13_1 : w12.cell? ⟨gb111, 1, none⟩ = some (.int .u64 0) := (bc_ BK111.out 1).trans rfl; have hcz13_2 : w12.cell? ⟨gb111, 2, none⟩ = some (.slice none 0 0) := (bc_ BK111.out 2).trans rfl; have hcz13_3 : w12.cell? ⟨gb111, 3, none⟩ = some (.bool false) := (bc_ BK111.out 3).trans rfl; have hcz13_4 : w12.cell? ⟨gb111, 4, none⟩ = some (.int .i64 0) := (bc_ BK111.out 4).trans rfl; have hfz13_0 := bf_ BK111.out 0; have hfz13_1 := bf_ BK111.out 1; have hfz13_2 := bf_ BK111.out 2; have hfz13_3 := bf_ BK111.out 3; have hfz13_4 := bf_ BK111.out 4) | ((with_reducible refine gate_callee (f := 62) rfl ?_); refine goesL_ (some 19) rfl rfl Tryd.func62 (by kernel_rfl) rfl #[.agg #[.int .i64 ((rd_T54 l0 x11_1).f0), .int .u64 ((rd_T54 l0 x11_1).f1), .slice A110_2 ((rd_T54 l0 x11_1).f2).length c110_2, .bool ((rd_T54 l0 x11_1).f3), .int .i64 ((rd_T54 l0 x11_1).f4)]] rfl (by (try simp only [List.map_toArray, List.map_cons, List.map_nil]); first | done | rfl | (simp only [List.length_drop, lt_]; rfl)) ?_; (with_reducible refine (conf_own.calls ((rd_T54 l0 x11_1).f0) ((rd_T54 l0 x11_1).f1) _ _ ((rd_T54 l0 x11_1).f2) ((rd_T54 l0 x11_1).f3) ((rd_T54 l0 x11_1).f4) t112 t113 t114 t117 t118 _ ?side1 ?side2 A9.out).mono ?_); (case side1 => exact Kd.C_below HR110_2.out (by repeat (first | (with_reducible first | exact HB.out | apply ba_ | apply bn_ | apply bd_ | refine be_ ?_ GE111.out) | exact HB.out))); (case side2 => exact HC110_2.out); rintro e w14 ⟨v115, rfl, ho0, hb⟩; refine ⟨_, rfl, ?_⟩; have n0_ := am_ (Kd.S_elder' (by (with_reducible repeat (first | apply Kd.S_alloc | apply Kd.S_drewN | apply Kd.S_drew)); exact (Kd.S_mono (Kd.S_far (p := ⟨gb111, 4, none⟩) (Kd.S_far (p := ⟨gb111, 3, none⟩) (Kd.S_far (p := ⟨gb111, 2, none⟩) (Kd.S_far (p := ⟨gb111, 1, none⟩) (Kd.S_far (p := ⟨gb111, 0, none⟩) (Kd.S_mono HO_3.out (fun k_ hk => (⟨hk, hk.2⟩ : _ ∧ k_ ≠ gb111))) (fun _ hk => hk.2) (.int .i64 ((rd_T54 l0 x11_1).f0))) (fun _ hk => hk.2) (.int .u64 ((rd_T54 l0 x11_1).f1))) (fun _ hk => hk.2) (.slice A110_2 ((rd_T54 l0 x11_1).f2).length c110_2)) (fun _ hk => hk.2) (.bool ((rd_T54 l0 x11_1).f3))) (fun _ hk => hk.2) (.int .i64 ((rd_T54 l0 x11_1).f4))) (fun _ h_ => h_.1))) (Kd.R_base ho0) hb); have n1_ := am_ (Kd.R_lower ho0 (bs_ (by repeat (first | (with_reducible first | exact HB.out | apply ba_ | apply bn_ | apply bd_ | refine be_ ?_ GE111.out) | exact HB.out)))); have n2_ := am_ (blk_below (g := gb111) (o := .cells #[.int .i64 ((rd_T54 l0 x11_1).f0), .int .u64 ((rd_T54 l0 x11_1).f1), .slice A110_2 ((rd_T54 l0 x11_1).f2).length c110_2, .bool ((rd_T54 l0 x11_1).f3), .int .i64 ((rd_T54 l0 x11_1).f4)] 54 (0, 0)) (by (with_reducible repeat (first | refine bw_ ?_ _ | refine bx_ ?_ | refine bl_ ?_ _)); refine blk_put (cs := #[.int .i64 ((rd_T54 l0 x11_1).f0), .int .u64 ((rd_T54 l0 x11_1).f1), .slice A110_2 ((rd_T54 l0 x11_1).f2).length c110_2, .bool ((rd_T54 l0 x11_1).f3), .int .i64 0]) ?_ 4 _ rfl; (with_reducible repeat (first | refine bw_ ?_ _ | refine bx_ ?_ | refine bl_ ?_ _)); refine blk_put (cs := #[.int .i64 ((rd_T54 l0 x11_1).f0), .int .u64 ((rd_T54 l0 x11_1).f1), .slice A110_2 ((rd_T54 l0 x11_1).f2).length c110_2, .bool false, .int .i64 0]) ?_ 3 _ rfl; (with_reducible repeat (first | refine bw_ ?_ _ | refine bx_ ?_ | refine bl_ ?_ _)); refine blk_put (cs := #[.int .i64 ((rd_T54 l0 x11_1).f0), .int .u64 ((rd_T54 l0 x11_1).f1), .slice none 0 0, .bool false, .int .i64 0]) ?_ 2 _ rfl; (with_reducible repeat (first | refine bw_ ?_ _ | refine bx_ ?_ | refine bl_ ?_ _)); refine blk_put (cs := #[.int .i64 ((rd_T54 l0 x11_1).f0), .int .u64 0, .slice none 0 0, .bool false, .int .i64 0]) ?_ 1 _ rfl; (with_reducible repeat (first | refine bw_ ?_ _ | refine bx_ ?_ | refine bl_ ?_ _)); refine blk_put (cs := #[.int .i64 0, .int .u64 0, .slice none 0 0, .bool false, .int .i64 0]) ?_ 0 _ rfl; (with_reducible repeat (first | refine bw_ ?_ _ | refine bx_ ?_ | refine bl_ ?_ _)); exact BK111.out) hb); have n3_ := am_ (bt_ (by repeat (first | (with_reducible first | exact HB.out | apply ba_ | apply bn_ | apply bd_ | refine be_ ?_ GE111.out) | exact HB.out)) hb); clear HO_3; clear BK111; clear HB; have HO_3 := n0_; have HO116 := n1_; have BK111 := n2_; have HB := n3_; clear n0_ n1_ n2_ n3_; (try clear hb); (try clear hb2); (try clear hk); (try clear hi); (try clear ho0); have p11 : 0 ≤ (x11_1 : Int) := od_ (by first | (with_reducible assumption) | assumption); have q11 : (x11_1 : Int) < ((x3_1.length : Int) : Int) := od_ (by first | (with_reducible assumption) | assumption); obtain ⟨go11, co11, eo11, gb11, gl11, cl11, HG11⟩ := Kd.S_form HO_3.out (by omega); (first | cases eo11 | (injection eo11 with ea_ en_ ec_; (first | subst ea_ | (injection ea_ with ea_; subst ea_)); subst ec_; clear en_)); have GB11 := am_ gb11; have GG11 := am_ HG11; clear gb11 gl11 HG11; obtain ⟨_, ce11, hcl11, hM11, hcc11, hfr11, _, _⟩ := Kd.S_elem HO_3.out z54 (x11_1 : Int) p11 q11; obtain ⟨ve11_2, rfl, ge11_2⟩ := k54_openM hM11; have hx11_0 : w14.cell? ⟨go11, (x11_1 : Int).toNat * 5, none⟩ = some (.int .i64 ((rd_T54 x3_1 x11_1).f0)) := hcc11 0 _ rfl; have hx11_1 : w14.cell? ⟨go11, (x11_1 : Int).toNat * 5 + 1, none⟩ = some (.int .u64 ((rd_T54 x3_1 x11_1).f1)) := hcc11 1 _ rfl; have hx11_2 : w14.cell? ⟨go11, (x11_1 : Int).toNat * 5 + 2, none⟩ = some (ve11_2) := hcc11 2 _ rfl; have hx11_3 : w14.cell? ⟨go11, (x11_1 : Int).toNat * 5 + 3, none⟩ = some (.bool ((rd_T54 x3_1 x11_1).f3)) := hcc11 3 _ rfl; have hx11_4 : w14.cell? ⟨go11, (x11_1 : Int).toNat * 5 + 4, none⟩ = some (.int .i64 ((rd_T54 x3_1 x11_1).f4)) := hcc11 4 _ rfl; have hf11_0 : w14.frozen? ⟨go11, (x11_1 : Int).toNat * 5, none⟩ = false := hfr11 0; have hf11_1 : w14.frozen? ⟨go11, (x11_1 : Int).toNat * 5 + 1, none⟩ = false := hfr11 1; have hf11_2 : w14.frozen? ⟨go11, (x11_1 : Int).toNat * 5 + 2, none⟩ = false := hfr11 2; have hf11_3 : w14.frozen? ⟨go11, (x11_1 : Int).toNat * 5 + 3, none⟩ = false := hfr11 3; have hf11_4 : w14.frozen? ⟨go11, (x11_1 : Int).toNat * 5 + 4, none⟩ = false := hfr11 4; clear hcl11 hcc11 hfr11 hM11; replace p11 := eq_true p11; replace q11 := eq_true q11; have n_ := am_ (Kd.S_mono (ok' := (fun k_ => some k_ ≠ (v115 : Value).ownBlock ∧ k_ ≠ gb111)) HO_3.out (fun k_ hk => ⟨hk.2, hk.1.2⟩)); clear HO_3; have HO_3 := n_; clear n_; have HX15 := am_ (show Kd.S k54 54 w14 w.heap.size (fun k_ => ((fun k_ => k_ ≠ gb111)) k_ ∧ ¬ ((fun k_ => some k_ = (v115 : Value).ownBlock)) k_) (.slice (some ⟨go11, 0, none⟩) x3_1.length co11) x3_1 from (by (with_reducible repeat (first | apply Kd.S_alloc | apply Kd.S_drewN | apply Kd.S_drew)); exact Kd.S_mono HO_3.out (fun k_ hk => ⟨hk.2, fun e_ => hk.1 e_⟩))); obtain ⟨oki15, ce15, hcl15, hM15, hcc15, hfr15, hoki15, hH15⟩ := Kd.S_elem HX15.out z54 (x11_1 : Int) (od_ (by first | (with_reducible assumption) | assumption)) (by have h_ : (x11_1 : Int) < ((x3_1.length : Int) : Int) := od_ (by first | (with_reducible assumption) | assumption); first | exact h_ | (have e_ := (Kd.S_reads' HO_3.out).1; omega) | simpa using h_); obtain ⟨ve15_2, rfl, ge15_2⟩ := k54_openM hM15; have HP15 := Kd.S_seg hH15 (od_ (by first | (with_reducible assumption) | assumption)) (by have h_ : (x11_1 : Int) < ((x3_1.length : Int) : Int) := od_ (by first | (with_reducible assumption) | assumption); first | exact h_ | (have e_ := (Kd.S_reads' HO_3.out).1; omega) | simpa using h_) (seg := [.int .i64 t112, .int .u64 t113, v115, .bool t117, .int .i64 t118]) (j := 0) (show 5 ≤ 5 from by decide) (x' := (⟨t112, t113, t114, t117, t118⟩ : S54)) (k54_mkM _ _ _ (⟨t112, t113, t114, t117, t118⟩ : S54) (Kd.R_mono (Kd.R_tight rfl (Kd.R_mono (ok' := fun k_ => ((fun k_ => k_ ≠ gb111)) k_ ∧ k_ ≠ go11) (Kd.R_types (Kd.R_apart' (HO116.out) (Kd.S_typed HO_3.out) (by decide)) BK111.out (by decide)) (fun k_ hk => ⟨hk.2, fun e_ => (hk.1.2) (by rw [e_]; rfl)⟩))) (fun _ h_ => Or.inr (h_)))) (fun _ hk => hk) (fun k_ hk_ => ((Kd.R_mono (ok' := fun k_ => ((fun k_ => k_ ≠ gb111)) k_ ∧ k_ ≠ go11) (Kd.R_types (Kd.R_apart' (HO116.out) (Kd.S_typed HO_3.out) (by decide)) BK111.out (by decide)) (fun k_ hk => ⟨hk.2, fun e_ => (hk.1.2) (by rw [e_]; rfl)⟩))).1 k_ hk_.symm); have hx15_0 := hcc15 0 _ rfl; (try simp only [show (k54).sz = 5 from rfl, Nat.mul_one, Nat.add_zero] at hx15_0); have hf15_0 := hfr15 0; (try simp only [show (k54).sz = 5 from rfl, Nat.mul_one, Nat.add_zero] at hf15_0); have hx15_1 := hcc15 1 _ rfl; (try simp only [show (k54).sz = 5 from rfl, Nat.mul_one, Nat.add_zero] at hx15_1); have hf15_1 := hfr15 1; (try simp only [show (k54).sz = 5 from rfl, Nat.mul_one, Nat.add_zero] at hf15_1); have hx15_2 := hcc15 2 _ rfl; (try simp only [show (k54).sz = 5 from rfl, Nat.mul_one, Nat.add_zero] at hx15_2); have hf15_2 := hfr15 2; (try simp only [show (k54).sz = 5 from rfl, Nat.mul_one, Nat.add_zero] at hf15_2); have hx15_3 := hcc15 3 _ rfl; (try simp only [show (k54).sz = 5 from rfl, Nat.mul_one, Nat.add_zero] at hx15_3); have hf15_3 := hfr15 3; (try simp only [show (k54).sz = 5 from rfl, Nat.mul_one, Nat.add_zero] at hf15_3); have hx15_4 := hcc15 4 _ rfl; (try simp only [show (k54).sz = 5 from rfl, Nat.mul_one, Nat.add_zero] at hx15_4); have hf15_4 := hfr15 4; (try simp only [show (k54).sz = 5 from rfl, Nat.mul_one, Nat.add_zero] at hf15_4); clear hcl15 hcc15 hfr15 hM15 hoki15 hH15) | ((with_reducible refine gate_store (t := 54) (p := 20) rfl ?_); refine store_event (t := 54) (p := 20) (v := ?vo_w16) (w1 := (((((w14.setCell ⟨go11, (x11_1 : Int).toNat * 5, none⟩ (.int .i64 t112)).setCell ⟨go11, (x11_1 : Int).toNat * 5 + 1, none⟩ (.int .u64 t113)).setCell ⟨go11, (x11_1 : Int).toNat * 5 + 2, none⟩ (v115)).setCell ⟨go11, (x11_1 : Int).toNat * 5 + 3, none⟩ (.bool t117)).setCell ⟨go11, (x11_1 : Int).toNat * 5 + 4, none⟩ (.int .i64 t118))) ?hg ?ho ?hn ?hr ?_; (case ho => rfl); (case hg => rfl); (case hn => rfl); (case hr => have hs0_ := fun (W_ : World) (a_ : Addr) (m_ : Mode) => run_store Tryd.prog W_ a_ v115 m_ (row_one HO116.out); first | (go_simp; done) | (go_simp; rfl)); intro w16 hw; have hg : w14.grownBy w16 (some go11) := (by rw [hw]; exact HP15.2); have hp_ : Kd.S k54 54 w16 w.heap.size (fun k_ => k_ ≠ gb111) (.slice (some ⟨go11, 0, none⟩) x3_1.length co11) y119 := (by rw [hw, Ny119.out]; exact HP15.1); clear HP15; have n0_ := am_ (hp_); have n1_ := am_ (blk_grown (g := gb111) (o := .cells #[.int .i64 ((rd_T54 l0 x11_1).f0), .int .u64 ((rd_T54 l0 x11_1).f1), .slice A110_2 ((rd_T54 l0 x11_1).f2).length c110_2, .bool ((rd_T54 l0 x11_1).f3), .int .i64 ((rd_T54 l0 x11_1).f4)] 54 (0, 0)) (by (with_reducible repeat (first | refine bw_ ?_ _ | refine bx_ ?_ | refine bl_ ?_ _)); exact BK111.out) hg (Kd.S_away HO_3.out (fun _ hk => hk.2))); have n2_ := am_ ((by rw [hw]; exact be_ (be_ (be_ (be_ (be_ (HB.out) GB11.out) GB11.out) GB11.out) GB11.out) GB11.out : Below w.heap.size w w16)); clear HO_3; clear BK111; clear HB; clear HO116; have HO_3 := n0_; have BK111 := n1_; have HB := n2_; clear n0_ n1_ n2_; clear hg hw hp_))
         go_roundg k1
         case measure => have := HK1.out; omega
         case rel => exact ⟨(y119), (wrap64 (x11_1 + 1)), (by first | rfl | (simp; done) | (simp [*]; done)), H', ⟨by have := HK1.out; omega⟩, ⟨by (with_reducible repeat (first | apply Kd.S_alloc | apply Kd.S_drewN | apply Kd.S_drew)); exact Kd.S_mono HO_3.out (fun _ hk => trivial)⟩, ⟨by repeat (first | (with_reducible first | exact HB.out | apply ba_ | apply bn_ | apply bd_ | refine be_ ?_ GE111.out) | exact HB.out)⟩⟩
        ·rw [if_neg c10] at H
         exact absurd H (by simp)
       ·rw [if_neg c8] at H
        exact absurd H (by simp)
      ·rw [if_neg c7] at H
       exact absurd H (by simp)
     ·rw [if_neg c6] at H
      have c6b0 : decide (x11_1 < (l0.length : Int)) = false := decide_eq_false c6
      clear c6
      obtain rfl := Option.some.inj H
      go_wp2
      go_ret
      exact ⟨_, by first | rfl | (simp [errW_none, errW_some] <;> rfl) | (simp [*, errW_none, errW_some] <;> rfl), by (with_reducible repeat (first | apply Kd.S_alloc | apply Kd.S_drewN | apply Kd.S_drew)); exact HO_3.out, by repeat (first | (with_reducible first | exact HB.out | apply ba_ | apply bn_ | apply bd_) | exact HB.out)⟩
  ·rw [if_neg c3] at H
   exact absurd H (by simp)
 ·rw [if_neg c2] at H
  exact absurd H (by simp)
def slices_Index_int_int.l0 : Nat → List Int → Int → Int → Int → Option (Int)
 | 0, _, _, _, _ => none
 | k + 1, x0, x1, x7, x8 => if x8 < x7 then (if 0 ≤ x8 then (if x8 < (x0.length : Int) then (if x1 = (rd x0 x8) then (some x8) else (slices_Index_int_int.l0 k x0 x1 x7 (wrap64 (x8 + 1)))) else (none)) else (none)) else (some (-1))
def slices_Index_int_int.f (k : Nat) (l0 : List Int) (a1 : Int) : Option (Int) := slices_Index_int_int.l0 k l0 a1 (l0.length : Int) 0
set_option maxHeartbeats 8000000 in
set_option maxRecDepth 100000 in
theorem slices_Index_int_int.calls (k : Nat) (A0 : Option Addr) (c0 : Nat) (l0 : List Int) (a1 : Int) (r : Int) (w : World) (hr0 : Kd.C (Kd.int .i64) w A0 l0.length l0) (hc0 : l0.length ≤ c0) (h : slices_Index_int_int.f k l0 a1 = some r) :
  Calls Tryd.prog 105 #[.slice A0 l0.length c0, .int .i64 a1] w fun e w' => e = .returned (.int .i64 r) ∧ Drawn0 w w' := by
 have HR0 := am_ hr0
 have HC0 := am_ hc0
 clear hr0 hc0
 have H : (slices_Index_int_int.l0 k l0 a1 (l0.length : Int) 0) = some r := h
 clear h
 have H' := am_ H
 clear H
 go_enter Tryd.func105, Tryd.ntmps105
 go_wp2
 go_loopg [8] k (fun kq v8 w' => ∃ (x8_1 : Int), v8 = .int .i64 x8_1 ∧ Aside0 (slices_Index_int_int.l0 kq l0 a1 (l0.length : Int) x8_1 = some r) ∧ Aside0 (kq ≤ k) ∧ Drawn0 w w')
 case atStart => exact ⟨(0), (by first | rfl | (simp; done) | (simp [*]; done)), H', ⟨Nat.le_refl _⟩, by repeat (first | exact Drawn0.refl _ | apply Drawn0.step)⟩
 case round =>
  clear H'
  try clear c1
  try clear p2
  obtain ⟨x8_1, rfl, HA, HK1, ⟨m1, rfl⟩⟩ := hrel
  cases gk with
  | zero => exact absurd HA.out (by simp [slices_Index_int_int.l0])
  | succ k1 =>
   have H := HA.out
   clear HA
   simp only [slices_Index_int_int.l0] at H
   by_cases c3 : x8_1 < (l0.length : Int)
   ·rw [if_pos c3] at H
    have c3b0 : decide (x8_1 < (l0.length : Int)) = true := decide_eq_true c3
    clear c3
    by_cases c4 : 0 ≤ x8_1
    ·rw [if_pos c4] at H
     have c4b0 : decide (0 ≤ x8_1) = true := decide_eq_true c4
     clear c4
     by_cases c5 : x8_1 < (l0.length : Int)
     ·rw [if_pos c5] at H
      have c5b0 : decide (x8_1 < (l0.length : Int)) = true := decide_eq_true c5
      clear c5
      by_cases c6 : a1 = (rd l0 x8_1)
      ·rw [if_pos c6] at H
       have c6b0 : (a1 == (rd l0 x8_1)) = true := beq_iff_eq.mpr c6
       have c6b1 : (a1 != (rd l0 x8_1)) = false := bne_eq_false_iff_eq.mpr c6
       clear c6
       obtain rfl := Option.some.inj H
       have p120 : 0 ≤ (x8_1 : Int) := od_ (by first | (with_reducible assumption) | assumption)
       have q120 : x8_1 < (l0.length : Int) := od_ (by first | (with_reducible assumption) | assumption)
       obtain ⟨ad120, e120, hx120_0⟩ := Kd.at_int HR0.out x8_1 p120 q120
       cases e120
       replace p120 := eq_true p120
       replace q120 := eq_true q120
       go_wp2
       go_ret
       exact ⟨by first | rfl | (simp; done) | (simp [*]; done), by repeat (first | exact Drawn0.refl _ | apply Drawn0.step)⟩
      ·rw [if_neg c6] at H
       have c6b0 : (a1 == (rd l0 x8_1)) = false := beq_eq_false_iff_ne.mpr c6
       have c6b1 : (a1 != (rd l0 x8_1)) = true := bne_iff_ne.mpr c6
       have H' := am_ H
       clear H
       have p120 : 0 ≤ (x8_1 : Int) := od_ (by first | (with_reducible assumption) | assumption)
       have q120 : x8_1 < (l0.length : Int) := od_ (by first | (with_reducible assumption) | assumption)
       obtain ⟨ad120, e120, hx120_0⟩ := Kd.at_int HR0.out x8_1 p120 q120
       cases e120
       replace p120 := eq_true p120
       replace q120 := eq_true q120
       go_wp2
       go_roundg k1
       case measure => have := HK1.out; omega
       case rel => exact ⟨(wrap64 (x8_1 + 1)), (by first | rfl | (simp; done) | (simp [*]; done)), H', ⟨by have := HK1.out; omega⟩, by repeat (first | exact Drawn0.refl _ | apply Drawn0.step)⟩
     ·rw [if_neg c5] at H
      exact absurd H (by simp)
    ·rw [if_neg c4] at H
     exact absurd H (by simp)
   ·rw [if_neg c3] at H
    have c3b0 : decide (x8_1 < (l0.length : Int)) = false := decide_eq_false c3
    clear c3
    obtain rfl := Option.some.inj H
    go_wp2
    go_ret
    exact ⟨by first | rfl | (simp; done) | (simp [*]; done), by repeat (first | exact Drawn0.refl _ | apply Drawn0.step)⟩
def slices_Contains_int_int.f (k : Nat) (l0 : List Int) (a1 : Int) : Option (Bool) := (slices_Index_int_int.f k l0 a1).bind fun t121 => (some (decide (t121 ≥ 0)))
set_option maxHeartbeats 8000000 in
set_option maxRecDepth 100000 in
theorem slices_Contains_int_int.calls (k : Nat) (A0 : Option Addr) (c0 : Nat) (l0 : List Int) (a1 : Int) (r : Bool) (w : World) (hr0 : Kd.C (Kd.int .i64) w A0 l0.length l0) (hc0 : l0.length ≤ c0) (h : slices_Contains_int_int.f k l0 a1 = some r) :
  Calls Tryd.prog 73 #[.slice A0 l0.length c0, .int .i64 a1] w fun e w' => e = .returned (.bool r) ∧ Drawn0 w w' := by
 have HR0 := am_ hr0
 have HC0 := am_ hc0
 clear hr0 hc0
 have H : ((slices_Index_int_int.f k l0 a1).bind fun t121 => (some (decide (t121 ≥ 0)))) = some r := h
 clear h
 replace H := Option.bind_eq_some_iff.mp H
 obtain ⟨t121, A30, H⟩ := H
 replace H : (some (decide (t121 ≥ 0))) = some r := H
 have A3 := am_ A30
 clear A30
 obtain rfl := Option.some.inj H
 go_enter Tryd.func73, Tryd.ntmps73
 go_wp2_with (first | ((with_reducible refine gate_callee (f := 105) rfl ?_); refine goesL_ (some 7) rfl rfl Tryd.func105 (by kernel_rfl) rfl #[.slice A0 l0.length c0, .int .i64 a1] rfl (by (try simp only [List.map_toArray, List.map_cons, List.map_nil]); first | done | rfl | (simp only [List.length_drop, lt_]; rfl)) ?_; (with_reducible refine (slices_Index_int_int.calls k _ _ l0 a1 t121 _ ?side1 ?side2 A3.out).mono ?_); (case side1 => repeat (first | exact HR0.out | (with_reducible refine Kd.C_alloc ?_ _) | (with_reducible refine Kd.C_drewN ?_ _) | (with_reducible refine Kd.C_drew ?_))); (case side2 => exact HC0.out); rintro e w' ⟨rfl, ⟨nd, rfl⟩⟩; refine ⟨_, rfl, ?_⟩))
 go_ret
 exact ⟨by first | rfl | (simp; done) | (simp [*]; done), by repeat (first | exact Drawn0.refl _ | apply Drawn0.step)⟩
def conf_node.f (a0 : Int) : Option (Bool) := if a0 ≥ 1 then (some (decide (a0 ≤ 24))) else (some false)
set_option maxHeartbeats 8000000 in
set_option maxRecDepth 100000 in
theorem conf_node.calls (a0 : Int) (r : Bool) (w : World) (h : conf_node.f a0 = some r) :
  Calls Tryd.prog 103 #[.int .i64 a0] w fun e w' => e = .returned (.bool r) ∧ Drawn0 w w' := by
 have H : (if a0 ≥ 1 then (some (decide (a0 ≤ 24))) else (some false)) = some r := h
 clear h
 by_cases c2 : a0 ≥ 1
 ·rw [if_pos c2] at H
  have c2b0 : decide (1 ≤ a0) = true := decide_eq_true c2
  clear c2
  obtain rfl := Option.some.inj H
  go_enter Tryd.func103, Tryd.ntmps103
  go_wp2
  go_ret
  exact ⟨by first | rfl | (simp; done) | (simp [*]; done), by repeat (first | exact Drawn0.refl _ | apply Drawn0.step)⟩
 ·rw [if_neg c2] at H
  have c2b0 : decide (1 ≤ a0) = false := decide_eq_false c2
  clear c2
  obtain rfl := Option.some.inj H
  go_enter Tryd.func103, Tryd.ntmps103
  go_wp2
  go_ret
  exact ⟨by first | rfl | (simp; done) | (simp [*]; done), by repeat (first | exact Drawn0.refl _ | apply Drawn0.step)⟩
def conf_unlike.l0 : Nat → List Int → List Int → Int → Int → Option (Bool)
 | 0, _, _, _, _ => none
 | k + 1, x0, x5, x6, x7 => if x7 < x6 then (if 0 ≤ x7 then (if x7 < (x5.length : Int) then ((conf_node.f (rd x5 x7)).bind fun t123 => (if t123 = true then (if x7 ≤ (x0.length : Int) then ((slices_Contains_int_int.f k (x0.take (x7 : Int).toNat) (rd x5 x7)).bind fun t125 => (if t125 = true then (some false) else (conf_unlike.l0 k x0 x5 x6 (wrap64 (x7 + 1))))) else (none)) else (some false))) else (none)) else (none)) else (some true)
def conf_unlike.f (k : Nat) (l0 : List Int) : Option (Bool) := conf_unlike.l0 k l0 l0 (l0.length : Int) 0
set_option maxHeartbeats 8000000 in
set_option maxRecDepth 100000 in
theorem conf_unlike.calls (k : Nat) (A0 : Option Addr) (c0 : Nat) (l0 : List Int) (r : Bool) (w : World) (hr0 : Kd.C (Kd.int .i64) w A0 l0.length l0) (hc0 : l0.length ≤ c0) (h : conf_unlike.f k l0 = some r) :
  Calls Tryd.prog 66 #[.slice A0 l0.length c0] w fun e w' => e = .returned (.bool r) ∧ Drawn0 w w' := by
 have HR0 := am_ hr0
 have HC0 := am_ hc0
 clear hr0 hc0
 have H : (conf_unlike.l0 k l0 l0 (l0.length : Int) 0) = some r := h
 clear h
 have H' := am_ H
 clear H
 go_enter Tryd.func66, Tryd.ntmps66
 go_wp2
 go_loopg [7] k (fun kq v7 w' => ∃ (x7_1 : Int), v7 = .int .i64 x7_1 ∧ Aside0 (conf_unlike.l0 kq l0 l0 (l0.length : Int) x7_1 = some r) ∧ Aside0 (kq ≤ k) ∧ Drawn0 w w')
 case atStart => exact ⟨(0), (by first | rfl | (simp; done) | (simp [*]; done)), H', ⟨Nat.le_refl _⟩, by repeat (first | exact Drawn0.refl _ | apply Drawn0.step)⟩
 case round =>
  clear H'
  obtain ⟨x7_1, rfl, HA, HK1, ⟨m1, rfl⟩⟩ := hrel
  cases gk with
  | zero => exact absurd HA.out (by simp [conf_unlike.l0])
  | succ k1 =>
   have H := HA.out
   clear HA
   simp only [conf_unlike.l0] at H
   by_cases c2 : x7_1 < (l0.length : Int)
   ·rw [if_pos c2] at H
    have c2b0 : decide (x7_1 < (l0.length : Int)) = true := decide_eq_true c2
    clear c2
    by_cases c3 : 0 ≤ x7_1
    ·rw [if_pos c3] at H
     have c3b0 : decide (0 ≤ x7_1) = true := decide_eq_true c3
     clear c3
     by_cases c4 : x7_1 < (l0.length : Int)
     ·rw [if_pos c4] at H
      have c4b0 : decide (x7_1 < (l0.length : Int)) = true := decide_eq_true c4
      clear c4
      replace H := Option.bind_eq_some_iff.mp H
      obtain ⟨t123, A50, H⟩ := H
      replace H : (if t123 = true then (if x7_1 ≤ (l0.length : Int) then ((slices_Contains_int_int.f k1 (l0.take (x7_1 : Int).toNat) (rd l0 x7_1)).bind fun t125 => (if t125 = true then (some false) else (conf_unlike.l0 k1 l0 l0 (l0.length : Int) (wrap64 (x7_1 + 1))))) else (none)) else (some false)) = some r := H
      have A5 := am_ A50
      clear A50
      by_cases c6 : t123 = true
      ·subst c6
       have H1 : (if x7_1 ≤ (l0.length : Int) then ((slices_Contains_int_int.f k1 (l0.take (x7_1 : Int).toNat) (rd l0 x7_1)).bind fun t125 => (if t125 = true then (some false) else (conf_unlike.l0 k1 l0 l0 (l0.length : Int) (wrap64 (x7_1 + 1))))) else (none)) = some r := by rw [if_pos rfl] at H; exact H
       clear H
       have H := H1
       clear H1
       have c7b0 := eq_true (od_ (by first | (with_reducible assumption) | assumption) : 0 ≤ x7_1)
       by_cases c8 : x7_1 ≤ (l0.length : Int)
       ·rw [if_pos c8] at H
        have c8b0 := eq_true c8
        have c8b1 : decide (x7_1 ≤ (l0.length : Int)) = true := decide_eq_true c8
        clear c8
        replace H := Option.bind_eq_some_iff.mp H
        obtain ⟨t125, A90, H⟩ := H
        replace H : (if t125 = true then (some false) else (conf_unlike.l0 k1 l0 l0 (l0.length : Int) (wrap64 (x7_1 + 1)))) = some r := H
        have A9 := am_ A90
        clear A90
        by_cases c10 : t125 = true
        ·subst c10
         have H1 : (some false) = some r := by rw [if_pos rfl] at H; exact H
         clear H
         have H := H1
         clear H1
         obtain rfl := Option.some.inj H
         have p122 : 0 ≤ (x7_1 : Int) := od_ (by first | (with_reducible assumption) | assumption)
         have q122 : x7_1 < (l0.length : Int) := od_ (by first | (with_reducible assumption) | assumption)
         obtain ⟨ad122, e122, hx122_0⟩ := Kd.at_int HR0.out x7_1 p122 q122
         cases e122
         replace p122 := eq_true p122
         replace q122 := eq_true q122
         go_wp2_with (first | ((with_reducible refine gate_callee (f := 103) rfl ?_); refine goesL_ (some 13) rfl rfl Tryd.func103 (by kernel_rfl) rfl #[.int .i64 (rd l0 x7_1)] rfl (by (try simp only [List.map_toArray, List.map_cons, List.map_nil]); first | done | rfl | (simp only [List.length_drop, lt_]; rfl)) ?_; (with_reducible refine (conf_node.calls (rd l0 x7_1) true _ A5.out).mono ?_); rintro e w' ⟨rfl, ⟨nd, rfl⟩⟩; refine ⟨_, rfl, ?_⟩; obtain ⟨i011, hi011, _, hsz11, _⟩ := info_parts info3; obtain ⟨hcut11, hA11, hC11⟩ := print_take_of (P := Tryd.prog) (Value.int .i64) 0 52 3 .i64 Tryd.underlying52 hi011 hsz11 (some ad122) c0 l0 x7_1 (od_ (by first | (with_reducible assumption) | assumption)) (od_ (by first | (with_reducible assumption) | assumption)) HC0.out; have HR124 := am_ (Kd.C_of_reads (h1 := fun _ => rfl) (hA11 _ (Kd.reads_of_C HR0.out))); have HC124 := am_ hC11; clear hA11 hC11 hi011 hsz11) | (go_at_call 73; (refine (calls_cut (by rw [lt_]; have a_ := of_eq_true p122; have b_ := of_eq_true q122; omega) (slices_Contains_int_int.calls k1 _ _ (l0.take (x7_1 : Int).toNat) (rd l0 x7_1) true _ ?side1 ?side2 A9.out)).mono ?_); (case side1 => repeat (first | exact HR124.out | (with_reducible refine Kd.C_alloc ?_ _) | (with_reducible refine Kd.C_drewN ?_ _) | (with_reducible refine Kd.C_drew ?_))); (case side2 => exact HC124.out); rintro e w' ⟨rfl, ⟨nd, rfl⟩⟩))
         go_ret
         exact ⟨by first | rfl | (simp; done) | (simp [*]; done), by repeat (first | exact Drawn0.refl _ | apply Drawn0.step)⟩
        ·replace c10 := Bool.eq_false_iff.mpr c10
         subst c10
         have H1 : (conf_unlike.l0 k1 l0 l0 (l0.length : Int) (wrap64 (x7_1 + 1))) = some r := by rw [if_neg (show ¬ (false = true) by decide)] at H; exact H
         clear H
         have H := H1
         clear H1
         have H' := am_ H
         clear H
         have p122 : 0 ≤ (x7_1 : Int) := od_ (by first | (with_reducible assumption) | assumption)
         have q122 : x7_1 < (l0.length : Int) := od_ (by first | (with_reducible assumption) | assumption)
         obtain ⟨ad122, e122, hx122_0⟩ := Kd.at_int HR0.out x7_1 p122 q122
         cases e122
         replace p122 := eq_true p122
         replace q122 := eq_true q122
         go_wp2_with (first | ((with_reducible refine gate_callee (f := 103) rfl ?_); refine goesL_ (some 13) rfl rfl Tryd.func103 (by kernel_rfl) rfl #[.int .i64 (rd l0 x7_1)] rfl (by (try simp only [List.map_toArray, List.map_cons, List.map_nil]); first | done | rfl | (simp only [List.length_drop, lt_]; rfl)) ?_; (with_reducible refine (conf_node.calls (rd l0 x7_1) true _ A5.out).mono ?_); rintro e w' ⟨rfl, ⟨nd, rfl⟩⟩; refine ⟨_, rfl, ?_⟩; obtain ⟨i012, hi012, _, hsz12, _⟩ := info_parts info3; obtain ⟨hcut12, hA12, hC12⟩ := print_take_of (P := Tryd.prog) (Value.int .i64) 0 52 3 .i64 Tryd.underlying52 hi012 hsz12 (some ad122) c0 l0 x7_1 (od_ (by first | (with_reducible assumption) | assumption)) (od_ (by first | (with_reducible assumption) | assumption)) HC0.out; have HR124 := am_ (Kd.C_of_reads (h1 := fun _ => rfl) (hA12 _ (Kd.reads_of_C HR0.out))); have HC124 := am_ hC12; clear hA12 hC12 hi012 hsz12) | (go_at_call 73; (refine (calls_cut (by rw [lt_]; have a_ := of_eq_true p122; have b_ := of_eq_true q122; omega) (slices_Contains_int_int.calls k1 _ _ (l0.take (x7_1 : Int).toNat) (rd l0 x7_1) false _ ?side1 ?side2 A9.out)).mono ?_); (case side1 => repeat (first | exact HR124.out | (with_reducible refine Kd.C_alloc ?_ _) | (with_reducible refine Kd.C_drewN ?_ _) | (with_reducible refine Kd.C_drew ?_))); (case side2 => exact HC124.out); rintro e w' ⟨rfl, ⟨nd, rfl⟩⟩))
         go_roundg k1
         case measure => have := HK1.out; omega
         case rel => exact ⟨(wrap64 (x7_1 + 1)), (by first | rfl | (simp; done) | (simp [*]; done)), H', ⟨by have := HK1.out; omega⟩, by repeat (first | exact Drawn0.refl _ | apply Drawn0.step)⟩
       ·rw [if_neg c8] at H
        exact absurd H (by simp)
      ·replace c6 := Bool.eq_false_iff.mpr c6
       subst c6
       have H1 : (some false) = some r := by rw [if_neg (show ¬ (false = true) by decide)] at H; exact H
       clear H
       have H := H1
       clear H1
       obtain rfl := Option.some.inj H
       have p122 : 0 ≤ (x7_1 : Int) := od_ (by first | (with_reducible assumption) | assumption)
       have q122 : x7_1 < (l0.length : Int) := od_ (by first | (with_reducible assumption) | assumption)
       obtain ⟨ad122, e122, hx122_0⟩ := Kd.at_int HR0.out x7_1 p122 q122
       cases e122
       replace p122 := eq_true p122
       replace q122 := eq_true q122
       go_wp2_with (first | ((with_reducible refine gate_callee (f := 103) rfl ?_); refine goesL_ (some 13) rfl rfl Tryd.func103 (by kernel_rfl) rfl #[.int .i64 (rd l0 x7_1)] rfl (by (try simp only [List.map_toArray, List.map_cons, List.map_nil]); first | done | rfl | (simp only [List.length_drop, lt_]; rfl)) ?_; (with_reducible refine (conf_node.calls (rd l0 x7_1) false _ A5.out).mono ?_); rintro e w' ⟨rfl, ⟨nd, rfl⟩⟩; refine ⟨_, rfl, ?_⟩))
       go_ret
       exact ⟨by first | rfl | (simp; done) | (simp [*]; done), by repeat (first | exact Drawn0.refl _ | apply Drawn0.step)⟩
     ·rw [if_neg c4] at H
      exact absurd H (by simp)
    ·rw [if_neg c3] at H
     exact absurd H (by simp)
   ·rw [if_neg c2] at H
    have c2b0 : decide (x7_1 < (l0.length : Int)) = false := decide_eq_false c2
    clear c2
    obtain rfl := Option.some.inj H
    go_wp2
    go_ret
    exact ⟨by first | rfl | (simp; done) | (simp [*]; done), by repeat (first | exact Drawn0.refl _ | apply Drawn0.step)⟩
end Go.Proofs.YtlpkandfmbnlnaaDoor.Q
end
section
namespace Go.Proofs.YtlpkandfmbnlnaaDoor.Q
end Go.Proofs.YtlpkandfmbnlnaaDoor.Q
namespace Go.Proofs.YtlpkandfmbnlnaaDoor.R
end Go.Proofs.YtlpkandfmbnlnaaDoor.R
namespace Go.Proofs.YtlpkandfmbnlnaaDoor.Q
open Go.RowKit Go.Proofs.YtlpkandfmbnlnaaDoorW.PrintWords Go.Proofs.YtlpkandfmbnlnaaDoorW.PrintLast Go.Proofs.YtlpkandfmbnlnaaDoorW.PrintMore
attribute [local go_sem] max2_int min2_int max_two min_two max_three min_three max_four min_four   -- for this text's walks alone
set_option linter.unusedVariables false
set_option linter.unusedSimpArgs false
open Go.Proofs.YtlpkandfmbnlnaaDoor.Q Go.Proofs.YtlpkandfmbnlnaaDoor.R
mutual
def conf_Begin.j0 : Nat → Int → Int → Bool → Option ((List (S54)) × Int)
 | 0, _, _, _ => none
 | k + 1, x0, x1, x22 => if x22 = true then (some (([] : List (S54)), 1)) else (if (wrap64 (x0 * x1)) > 24 then (some (([] : List (S54)), 9)) else (if 0 ≤ x0 then (if (x0 : Int).toNat ≤ 5026338869833 then ((some (List.replicate (x0 : Int).toNat z54 : List (S54))).bind fun y181 => (conf_Begin.l0 k x1 y181 (y181.length : Int) 0)) else (none)) else (none)))
def conf_Begin.l0 : Nat → Int → List (S54) → Int → Int → Option ((List (S54)) × Int)
 | 0, _, _, _, _ => none
 | k + 1, x1, x6, x30, x31 => if x31 < x30 then (if 0 ≤ x31 then (if x31 < (x6.length : Int) then (conf_Begin.l1 k x1 (x6.set (x31 : Int).toNat (⟨x31, 1, ([] : List Int), false, 0⟩ : S54)) x31 x30 x31 x1 0) else (none)) else (none)) else (some (x6, 0))
def conf_Begin.l1 : Nat → Int → List (S54) → Int → Int → Int → Int → Int → Option ((List (S54)) × Int)
 | 0, _, _, _, _, _, _, _ => none
 | k + 1, x1, x6, x7, x30, x31, x39, x40 => if x40 < x39 then (if 0 ≤ x7 then (if x7 < (x6.length : Int) then (if ((rd_T54 x6 x7).f2).length < 17592186044416 then (conf_Begin.l1 k x1 (x6.set (x7 : Int).toNat (⟨(rd_T54 x6 x7).f0, (rd_T54 x6 x7).f1, (((rd_T54 x6 x7).f2) ++ [wrap64 ((wrap64 ((wrap64 (x7 * x1)) + x40)) + 1)]), (rd_T54 x6 x7).f3, (rd_T54 x6 x7).f4⟩ : S54)) x7 x30 x31 x39 (wrap64 (x40 + 1))) else (none)) else (none)) else (none)) else (conf_Begin.l0 k x1 x6 x30 (wrap64 (x31 + 1)))
end
def conf_Begin.f (k : Nat) (a0 : Int) (a1 : Int) : Option ((List (S54)) × Int) := if a0 < 1 then (conf_Begin.j0 k a0 a1 true) else (if a0 > 4 then (conf_Begin.j0 k a0 a1 true) else (if a1 < 1 then (conf_Begin.j0 k a0 a1 true) else (conf_Begin.j0 k a0 a1 (decide (a1 > 5)))))
theorem conf_Begin.mono_l : ∀ k, (∀ y0 y1 y2, LeO (conf_Begin.j0 k y0 y1 y2) (conf_Begin.j0 (k + 1) y0 y1 y2)) ∧ (∀ y0 y1 y2 y3, LeO (conf_Begin.l0 k y0 y1 y2 y3) (conf_Begin.l0 (k + 1) y0 y1 y2 y3)) ∧ (∀ y0 y1 y2 y3 y4 y5 y6, LeO (conf_Begin.l1 k y0 y1 y2 y3 y4 y5 y6) (conf_Begin.l1 (k + 1) y0 y1 y2 y3 y4 y5 y6))
 | 0 => ⟨fun _ _ _ r h => by simp [conf_Begin.j0] at h, fun _ _ _ _ r h => by simp [conf_Begin.l0] at h, fun _ _ _ _ _ _ _ r h => by simp [conf_Begin.l1] at h⟩
 | k + 1 => by
  obtain ⟨ih0, ih1, ih2⟩ := conf_Begin.mono_l k
  refine ⟨?_, ?_, ?_⟩
  ·intro y0 y1 y2
   unfold conf_Begin.j0
   repeat' first
   | (with_reducible exact ih0 _ _ _)
   | (with_reducible exact ih1 _ _ _ _)
   | (with_reducible exact ih2 _ _ _ _ _ _ _)
   | (with_reducible exact LeO.refl _)
   | (with_reducible exact LeO.none _)
   | (with_reducible refine LeO.ite ?_ ?_)
   | (with_reducible refine LeO.bind ?_ (fun _ => ?_))
   | exact ih0 _ _ _
   | exact ih1 _ _ _ _
   | exact ih2 _ _ _ _ _ _ _
   | exact LeO.none _
   | refine LeO.ite ?_ ?_
   | refine LeO.bind ?_ (fun _ => ?_)
  ·intro y0 y1 y2 y3
   unfold conf_Begin.l0
   repeat' first
   | (with_reducible exact ih0 _ _ _)
   | (with_reducible exact ih1 _ _ _ _)
   | (with_reducible exact ih2 _ _ _ _ _ _ _)
   | (with_reducible exact LeO.refl _)
   | (with_reducible exact LeO.none _)
   | (with_reducible refine LeO.ite ?_ ?_)
   | (with_reducible refine LeO.bind ?_ (fun _ => ?_))
   | exact ih0 _ _ _
   | exact ih1 _ _ _ _
   | exact ih2 _ _ _ _ _ _ _
   | exact LeO.none _
   | refine LeO.ite ?_ ?_
   | refine LeO.bind ?_ (fun _ => ?_)
  ·intro y0 y1 y2 y3 y4 y5 y6
   unfold conf_Begin.l1
   repeat' first
   | (with_reducible exact ih0 _ _ _)
   | (with_reducible exact ih1 _ _ _ _)
   | (with_reducible exact ih2 _ _ _ _ _ _ _)
   | (with_reducible exact LeO.refl _)
   | (with_reducible exact LeO.none _)
   | (with_reducible refine LeO.ite ?_ ?_)
   | (with_reducible refine LeO.bind ?_ (fun _ => ?_))
   | exact ih0 _ _ _
   | exact ih1 _ _ _ _
   | exact ih2 _ _ _ _ _ _ _
   | exact LeO.none _
   | refine LeO.ite ?_ ?_
   | refine LeO.bind ?_ (fun _ => ?_)
theorem conf_Begin.mono : ∀ a0 a1 k, LeO (conf_Begin.f k a0 a1) (conf_Begin.f (k + 1) a0 a1) := by
 intro a0 a1 k
 obtain ⟨ih0, ih1, ih2⟩ := conf_Begin.mono_l k
 unfold conf_Begin.f
 repeat' first
   | (with_reducible exact ih0 _ _ _)
   | (with_reducible exact ih1 _ _ _ _)
   | (with_reducible exact ih2 _ _ _ _ _ _ _)
   | (with_reducible exact LeO.refl _)
   | (with_reducible exact LeO.none _)
   | (with_reducible refine LeO.ite ?_ ?_)
   | (with_reducible refine LeO.bind ?_ (fun _ => ?_))
   | exact ih0 _ _ _
   | exact ih1 _ _ _ _
   | exact ih2 _ _ _ _ _ _ _
   | exact LeO.none _
   | refine LeO.ite ?_ ?_
   | refine LeO.bind ?_ (fun _ => ?_)
set_option maxHeartbeats 8000000 in
set_option maxRecDepth 100000 in
theorem conf_Begin.calls (k : Nat) (a0 : Int) (a1 : Int) (r1 : List (S54)) (r2 : Int) (w : World) (h : conf_Begin.f k a0 a1 = some (r1, r2)) :
  Calls Tryd.prog 61 #[.int .i64 a0, .int .i64 a1] w fun e w' => ∃ v0_ : Value, e = .returned (.tuple #[v0_, .int .i64 r2]) ∧ Kd.S k54 54 w' w.heap.size (fun _ => True) v0_ r1 ∧ Below w.heap.size w w' := by
 have hu54 := Tryd.underlying54
 have HB := am_ (Below.refl w.heap.size w)
 have H : (if a0 < 1 then (conf_Begin.j0 k a0 a1 true) else (if a0 > 4 then (conf_Begin.j0 k a0 a1 true) else (if a1 < 1 then (conf_Begin.j0 k a0 a1 true) else (conf_Begin.j0 k a0 a1 (decide (a1 > 5)))))) = some (r1, r2) := h
 clear h
 have HC3 := am_ H
 clear H
 go_enter Tryd.func61, Tryd.ntmps61
 go_upto_region 1 with (fail)
 go_cut [22] (fun v22 wc => ∃ (kq : Nat) (x22_2 : Bool), v22 = .bool x22_2 ∧ Aside0 (conf_Begin.j0 kq a0 a1 x22_2 = some (r1, r2)) ∧ Aside0 (kq ≤ k) ∧ Aside0 (Below w.heap.size w wc))
 case first =>
  have H := HC3.out
  clear HC3
  by_cases c4 : a0 < 1
  ·rw [if_pos c4] at H
   have c4b0 : decide (a0 < 1) = true := decide_eq_true c4
   clear c4
   (first | rw [c4b0] | (simp only [i64_w, i32_w]; rw [c4b0]) | skip)
   have H' := am_ H
   clear H
   go_wp2
   go_meet
   case rel => exact ⟨_, (true), (by first | rfl | (simp; done) | (simp [*]; done)), H', ⟨by first | omega | exact Nat.le_refl _⟩, ⟨by repeat (first | (with_reducible first | exact HB.out | apply ba_ | apply bn_ | apply bd_) | exact HB.out)⟩⟩
  ·rw [if_neg c4] at H
   have c4b0 : decide (a0 < 1) = false := decide_eq_false c4
   clear c4
   (first | rw [c4b0] | (simp only [i64_w, i32_w]; rw [c4b0]) | skip)
   by_cases c5 : a0 > 4
   ·rw [if_pos c5] at H
    have c5b0 : decide (4 < a0) = true := decide_eq_true c5
    clear c5
    have H' := am_ H
    clear H
    go_wp2
    go_meet
    case rel => exact ⟨_, (true), (by first | rfl | (simp; done) | (simp [*]; done)), H', ⟨by first | omega | exact Nat.le_refl _⟩, ⟨by repeat (first | (with_reducible first | exact HB.out | apply ba_ | apply bn_ | apply bd_) | exact HB.out)⟩⟩
   ·rw [if_neg c5] at H
    have c5b0 : decide (4 < a0) = false := decide_eq_false c5
    clear c5
    by_cases c6 : a1 < 1
    ·rw [if_pos c6] at H
     have c6b0 : decide (a1 < 1) = true := decide_eq_true c6
     clear c6
     have H' := am_ H
     clear H
     go_wp2
     go_meet
     case rel => exact ⟨_, (true), (by first | rfl | (simp; done) | (simp [*]; done)), H', ⟨by first | omega | exact Nat.le_refl _⟩, ⟨by repeat (first | (with_reducible first | exact HB.out | apply ba_ | apply bn_ | apply bd_) | exact HB.out)⟩⟩
    ·rw [if_neg c6] at H
     have c6b0 : decide (a1 < 1) = false := decide_eq_false c6
     clear c6
     have H' := am_ H
     clear H
     go_wp2
     go_meet
     case rel => exact ⟨_, (decide (a1 > 5)), (by first | rfl | (simp; done) | (simp [*]; done)), H', ⟨by first | omega | exact Nat.le_refl _⟩, ⟨by repeat (first | (with_reducible first | exact HB.out | apply ba_ | apply bn_ | apply bd_) | exact HB.out)⟩⟩
 case rest =>
  clear HC3
  try clear p2
  try clear c4
  try clear c4b0
  try clear c5
  try clear c5b0
  try clear c6
  try clear c6b0
  obtain ⟨kq, x22_2, rfl, HA, HJ2, HB⟩ := hcut
  cases kq with
  | zero => exact absurd HA.out (by simp [conf_Begin.j0])
  | succ kj2 =>
   have H := HA.out
   clear HA
   simp only [conf_Begin.j0] at H
   by_cases c7 : x22_2 = true
   ·subst c7
    have H1 : (some (([] : List (S54)), 1)) = some (r1, r2) := by rw [if_pos rfl] at H; exact H
    clear H
    have H := H1
    clear H1
    simp only [Option.some.injEq, Prod.mk.injEq] at H
    obtain ⟨rfl, rfl⟩ := H
    go_wp2
    go_ret2
    exact ⟨_, by first | rfl | (simp [errW_none, errW_some] <;> rfl) | (simp [*, errW_none, errW_some] <;> rfl), by first | exact Kd.S_nil _ _ _ _ _ | exact Kd.N_nil _ _ _ _ _ | exact Kd.V_nil _ _ _ _ _ | exact Kd.Q_nil _ _ _ _ _ | exact Kd.R_nil _ _ _ _ _, by repeat (first | (with_reducible first | exact HB.out | apply ba_ | apply bn_ | apply bd_) | exact HB.out)⟩
   ·replace c7 := Bool.eq_false_iff.mpr c7
    subst c7
    have H1 : (if (wrap64 (a0 * a1)) > 24 then (some (([] : List (S54)), 9)) else (if 0 ≤ a0 then (if (a0 : Int).toNat ≤ 5026338869833 then ((some (List.replicate (a0 : Int).toNat z54 : List (S54))).bind fun y181 => (conf_Begin.l0 kj2 a1 y181 (y181.length : Int) 0)) else (none)) else (none))) = some (r1, r2) := by rw [if_neg (show ¬ (false = true) by decide)] at H; exact H
    clear H
    have H := H1
    clear H1
    by_cases c8 : (wrap64 (a0 * a1)) > 24
    ·rw [if_pos c8] at H
     have c8b0 : decide (24 < (wrap64 (a0 * a1))) = true := decide_eq_true c8
     clear c8
     simp only [Option.some.injEq, Prod.mk.injEq] at H
     obtain ⟨rfl, rfl⟩ := H
     go_wp2
     go_ret2
     exact ⟨_, by first | rfl | (simp [errW_none, errW_some] <;> rfl) | (simp [*, errW_none, errW_some] <;> rfl), by first | exact Kd.S_nil _ _ _ _ _ | exact Kd.N_nil _ _ _ _ _ | exact Kd.V_nil _ _ _ _ _ | exact Kd.Q_nil _ _ _ _ _ | exact Kd.R_nil _ _ _ _ _, by repeat (first | (with_reducible first | exact HB.out | apply ba_ | apply bn_ | apply bd_) | exact HB.out)⟩
    ·rw [if_neg c8] at H
     have c8b0 : decide (24 < (wrap64 (a0 * a1))) = false := decide_eq_false c8
     clear c8
     by_cases c9 : 0 ≤ a0
     ·rw [if_pos c9] at H
      have c9b0 := eq_true c9
      have c9b1 : decide (0 ≤ a0) = true := decide_eq_true c9
      clear c9
      by_cases c10 : (a0 : Int).toNat ≤ 5026338869833
      ·rw [if_pos c10] at H
       have c10b0 := eq_true c10
       have c10b1 : decide ((a0 : Int).toNat ≤ 5026338869833) = true := decide_eq_true c10
       clear c10
       obtain ⟨y181, hy181⟩ : ∃ y_ : List (S54), y_ = (List.replicate (a0 : Int).toNat z54) := ⟨_, rfl⟩
       replace H : (conf_Begin.l0 kj2 a1 y181 (y181.length : Int) 0) = some (r1, r2) := by first | (rw [hy181]; with_reducible exact H) | (have H2_ := (ob_ _ _).symm.trans H; rw [hy181]; with_reducible exact H2_) | (have H2_ := (ob_ _ _).symm.trans H; with_reducible exact H2_) | with_reducible exact H | (rw [hy181]; exact H) | exact H
       have Ny181 := am_ hy181
       clear hy181
       have H' := am_ H
       clear H
       go_wp2_with (first | ((with_reducible refine gate_dst (N := 28) rfl ?_); refine Kd.S_make k54 _ 54 rfl (N := 28) rfl 43 _ _ rfl a0 rfl rfl Tryd.underlying43 (.agg #[(.int .i64 0), (.int .u64 0), (.slice none 0 0), (.bool false), (.int .i64 0)]) 56 info54 rfl (by decide) (by omega) z54 (ok := fun _ => True) (okp := fun _ => True) (k54_mkM _ _ _ z54 (Kd.R_nil _ _ _ _ _)) (fun _ hk => hk) trivial (od_ (by first | (with_reducible assumption) | assumption)) (Nat.le_trans (Nat.mul_le_mul_right _ (od_ (by first | (with_reducible assumption) | assumption) : a0.toNat ≤ 5026338869833)) (by omega)) (Below.refl _ _) (Nat.le_refl _) ?_; intro v182 w11 ho12 hb hg_ hnew_; clear hg_ hnew_; (first | rw [← Ny181.out] at ho12 | (simp only [Int.reduceToNat] at ho12; rw [← Ny181.out] at ho12)); have n0_ := am_ (Kd.S_lower ho12 (bs_ (by repeat (first | (with_reducible first | exact HB.out | apply ba_ | apply bn_ | apply bd_) | exact HB.out)))); have n1_ := am_ (bt_ (by repeat (first | (with_reducible first | exact HB.out | apply ba_ | apply bn_ | apply bd_) | exact HB.out)) hb); clear HB; have HO183 := n0_; have HB := n1_; clear n0_ n1_; clear hb ho12; obtain ⟨Ao13, co13, eo13⟩ := Kd.S_slice HO183.out; subst eo13))
       go_loopg [31] kj2 (fun kq v31 w' => ∃ (x6_2 : List (S54)) (x31_2 : Int), v31 = .int .i64 x31_2 ∧ Aside0 (conf_Begin.l0 kq a1 x6_2 (y181.length : Int) x31_2 = some (r1, r2)) ∧ Aside0 (kq ≤ kj2) ∧ Aside0 (Kd.S k54 54 w' w.heap.size (fun _ => True) (.slice Ao13 y181.length co13) x6_2) ∧ Aside0 (Below w.heap.size w w'))
       case atStart => exact ⟨(y181), (0), (by first | rfl | (simp; done) | (simp [*]; done)), H', ⟨Nat.le_refl _⟩, ⟨by (with_reducible repeat (first | apply Kd.S_alloc | apply Kd.S_drewN | apply Kd.S_drew)); exact HO183.out⟩, ⟨by repeat (first | (with_reducible first | exact HB.out | apply ba_ | apply bn_ | apply bd_) | exact HB.out)⟩⟩
       case round =>
        clear H'
        try clear c1
        try clear p2
        try clear c4
        try clear c4b0
        try clear c5
        try clear c5b0
        try clear c6
        try clear c6b0
        try clear p6
        try clear c7
        try clear c8
        try clear c8b0
        try clear c9
        try clear c9b0
        try clear c9b1
        try clear c10
        try clear c10b0
        try clear c10b1
        try clear p2
        obtain ⟨x6_2, x31_2, rfl, HA, HK2, HO_6, HB⟩ := hrel
        have hl6_2 := (Kd.S_reads' HO_6.out).1
        rw [hl6_2] at HO_6
        (try simp only [hl6_2])
        cases gk with
        | zero => exact absurd HA.out (by simp [conf_Begin.l0])
        | succ k2 =>
         have H := HA.out
         clear HA
         simp only [conf_Begin.l0] at H
         by_cases c14 : x31_2 < (y181.length : Int)
         ·rw [if_pos c14] at H
          have c14b0 : decide (x31_2 < (y181.length : Int)) = true := decide_eq_true c14
          (try (have c14b0_ := c14b0; simp only [hl6_3] at c14b0_))
          (try (have c14b0_ := c14b0; simp only [hl6_2] at c14b0_))
          clear c14
          by_cases c15 : 0 ≤ x31_2
          ·rw [if_pos c15] at H
           have c15b0 : decide (0 ≤ x31_2) = true := decide_eq_true c15
           clear c15
           by_cases c16 : x31_2 < (x6_2.length : Int)
           ·rw [if_pos c16] at H
            have c16b0 : decide (x31_2 < (x6_2.length : Int)) = true := decide_eq_true c16
            clear c16
            obtain ⟨y184, hy184⟩ : ∃ y_ : List (S54), y_ = (x6_2.set (x31_2 : Int).toNat (⟨x31_2, 1, ([] : List Int), false, 0⟩ : S54)) := ⟨_, rfl⟩
            replace H : (conf_Begin.l1 k2 a1 y184 x31_2 (y181.length : Int) x31_2 a1 0) = some (r1, r2) := by first | (rw [hy184]; with_reducible exact H) | (have H2_ := (ob_ _ _).symm.trans H; rw [hy184]; with_reducible exact H2_) | (have H2_ := (ob_ _ _).symm.trans H; with_reducible exact H2_) | with_reducible exact H | (rw [hy184]; exact H) | exact H
            have Ny184 := am_ hy184
            clear hy184
            have H' := am_ H
            clear H
            have p17 : 0 ≤ (x31_2 : Int) := od_ (by first | (with_reducible assumption) | assumption)
            have q17 : (x31_2 : Int) < ((x6_2.length : Int) : Int) := od_ (by first | (with_reducible assumption) | assumption)
            obtain ⟨go17, co17, eo17, gb17, gl17, cl17, HG17⟩ := Kd.S_form HO_6.out (by omega)
            (first | cases eo17 | (injection eo17 with ea_ en_ ec_; (first | subst ea_ | (injection ea_ with ea_; subst ea_)); subst ec_; clear en_))
            have GB17 := am_ gb17
            have GG17 := am_ HG17
            clear gb17 gl17 HG17
            obtain ⟨_, ce17, hcl17, hM17, hcc17, hfr17, _, _⟩ := Kd.S_elem HO_6.out z54 (x31_2 : Int) p17 q17
            obtain ⟨ve17_2, rfl, ge17_2⟩ := k54_openM hM17
            have hx17_0 : wr.cell? ⟨go17, (x31_2 : Int).toNat * 5, none⟩ = some (.int .i64 ((rd_T54 x6_2 x31_2).f0)) := hcc17 0 _ rfl
            have hx17_1 : wr.cell? ⟨go17, (x31_2 : Int).toNat * 5 + 1, none⟩ = some (.int .u64 ((rd_T54 x6_2 x31_2).f1)) := hcc17 1 _ rfl
            have hx17_2 : wr.cell? ⟨go17, (x31_2 : Int).toNat * 5 + 2, none⟩ = some (ve17_2) := hcc17 2 _ rfl
            have hx17_3 : wr.cell? ⟨go17, (x31_2 : Int).toNat * 5 + 3, none⟩ = some (.bool ((rd_T54 x6_2 x31_2).f3)) := hcc17 3 _ rfl
            have hx17_4 : wr.cell? ⟨go17, (x31_2 : Int).toNat * 5 + 4, none⟩ = some (.int .i64 ((rd_T54 x6_2 x31_2).f4)) := hcc17 4 _ rfl
            have hf17_0 : wr.frozen? ⟨go17, (x31_2 : Int).toNat * 5, none⟩ = false := hfr17 0
            have hf17_1 : wr.frozen? ⟨go17, (x31_2 : Int).toNat * 5 + 1, none⟩ = false := hfr17 1
            have hf17_2 : wr.frozen? ⟨go17, (x31_2 : Int).toNat * 5 + 2, none⟩ = false := hfr17 2
            have hf17_3 : wr.frozen? ⟨go17, (x31_2 : Int).toNat * 5 + 3, none⟩ = false := hfr17 3
            have hf17_4 : wr.frozen? ⟨go17, (x31_2 : Int).toNat * 5 + 4, none⟩ = false := hfr17 4
            clear hcl17 hcc17 hfr17 hM17
            replace p17 := eq_true p17
            replace q17 := eq_true q17
            have HX18 := am_ (show Kd.S k54 54 wr w.heap.size (fun k_ => ((fun _ => True)) k_ ∧ ¬ ((fun _ => False)) k_) (.slice (some ⟨go17, 0, none⟩) x6_2.length co13) x6_2 from (by (with_reducible repeat (first | apply Kd.S_alloc | apply Kd.S_drewN | apply Kd.S_drew)); exact Kd.S_mono HO_6.out (fun k_ hk => ⟨trivial, fun e_ => e_⟩)))
            obtain ⟨oki18, ce18, hcl18, hM18, hcc18, hfr18, hoki18, hH18⟩ := Kd.S_elem HX18.out z54 (x31_2 : Int) (od_ (by first | (with_reducible assumption) | assumption)) (by have h_ : (x31_2 : Int) < ((x6_2.length : Int) : Int) := od_ (by first | (with_reducible assumption) | assumption); first | exact h_ | (have e_ := (Kd.S_reads' HO_6.out).1; omega) | simpa using h_)
            obtain ⟨ve18_2, rfl, ge18_2⟩ := k54_openM hM18
            have HP18 := Kd.S_seg hH18 (od_ (by first | (with_reducible assumption) | assumption)) (by have h_ : (x31_2 : Int) < ((x6_2.length : Int) : Int) := od_ (by first | (with_reducible assumption) | assumption); first | exact h_ | (have e_ := (Kd.S_reads' HO_6.out).1; omega) | simpa using h_) (seg := [.int .i64 x31_2, .int .u64 1, .slice none 0 0, .bool false, .int .i64 0]) (j := 0) (show 5 ≤ 5 from by decide) (x' := (⟨x31_2, 1, ([] : List Int), false, 0⟩ : S54)) (k54_mkM _ _ _ (⟨x31_2, 1, ([] : List Int), false, 0⟩ : S54) (Kd.R_nil _ _ _ _ _)) (fun _ hk => hk) (fun k_ hk_ => hk_.elim)
            have hx18_0 := hcc18 0 _ rfl
            (try simp only [show (k54).sz = 5 from rfl, Nat.mul_one, Nat.add_zero] at hx18_0)
            have hf18_0 := hfr18 0
            (try simp only [show (k54).sz = 5 from rfl, Nat.mul_one, Nat.add_zero] at hf18_0)
            have hx18_1 := hcc18 1 _ rfl
            (try simp only [show (k54).sz = 5 from rfl, Nat.mul_one, Nat.add_zero] at hx18_1)
            have hf18_1 := hfr18 1
            (try simp only [show (k54).sz = 5 from rfl, Nat.mul_one, Nat.add_zero] at hf18_1)
            have hx18_2 := hcc18 2 _ rfl
            (try simp only [show (k54).sz = 5 from rfl, Nat.mul_one, Nat.add_zero] at hx18_2)
            have hf18_2 := hfr18 2
            (try simp only [show (k54).sz = 5 from rfl, Nat.mul_one, Nat.add_zero] at hf18_2)
            have hx18_3 := hcc18 3 _ rfl
            (try simp only [show (k54).sz = 5 from rfl, Nat.mul_one, Nat.add_zero] at hx18_3)
            have hf18_3 := hfr18 3
            (try simp only [show (k54).sz = 5 from rfl, Nat.mul_one, Nat.add_zero] at hf18_3)
            have hx18_4 := hcc18 4 _ rfl
            (try simp only [show (k54).sz = 5 from rfl, Nat.mul_one, Nat.add_zero] at hx18_4)
            have hf18_4 := hfr18 4
            (try simp only [show (k54).sz = 5 from rfl, Nat.mul_one, Nat.add_zero] at hf18_4)
            clear hcl18 hcc18 hfr18 hM18 hoki18 hH18
            go_wp2_with (first | ((with_reducible refine gate_store (t := 54) (p := 38) rfl ?_); refine store_event (t := 54) (p := 38) (v := ?vo_w19) (w1 := (((((wr.setCell ⟨go17, (x31_2 : Int).toNat * 5, none⟩ (.int .i64 x31_2)).setCell ⟨go17, (x31_2 : Int).toNat * 5 + 1, none⟩ (.int .u64 1)).setCell ⟨go17, (x31_2 : Int).toNat * 5 + 2, none⟩ (.slice none 0 0)).setCell ⟨go17, (x31_2 : Int).toNat * 5 + 3, none⟩ (.bool false)).setCell ⟨go17, (x31_2 : Int).toNat * 5 + 4, none⟩ (.int .i64 0))) ?hg ?ho ?hn ?hr ?_; (case ho => rfl); (case hg => rfl); (case hn => rfl); (case hr => first | (go_simp; done) | (go_simp; rfl)); intro w19 hw; have hg : wr.grownBy w19 (some go17) := (by rw [hw]; exact HP18.2); have hp_ : Kd.S k54 54 w19 w.heap.size (fun _ => True) (.slice (some ⟨go17, 0, none⟩) x6_2.length co13) y184 := (by rw [hw, Ny184.out]; exact HP18.1); clear HP18; have n0_ := am_ (hp_); have n1_ := am_ ((by rw [hw]; exact be_ (be_ (be_ (be_ (be_ (HB.out) GB17.out) GB17.out) GB17.out) GB17.out) GB17.out : Below w.heap.size w w19)); clear HO_6; clear HB; have HO_6 := n0_; have HB := n1_; clear n0_ n1_; clear hg hw hp_))
            go_loopg [40] k2 (fun kq v40 w' => ∃ (x6_3 : List (S54)) (x40_3 : Int), v40 = .int .i64 x40_3 ∧ Aside0 (conf_Begin.l1 kq a1 x6_3 x31_2 (y181.length : Int) x31_2 a1 x40_3 = some (r1, r2)) ∧ Aside0 (kq ≤ k2) ∧ Aside0 (Kd.S k54 54 w' w.heap.size (fun _ => True) (.slice (some ⟨go17, 0, none⟩) x6_2.length co13) x6_3) ∧ Aside0 (Below w.heap.size w w'))
            case atStart => exact ⟨(y184), (0), (by first | rfl | (simp; done) | (simp [*]; done)), H', ⟨Nat.le_refl _⟩, ⟨by (try simp only [hl6_2]); (with_reducible repeat (first | apply Kd.S_alloc | apply Kd.S_drewN | apply Kd.S_drew)); exact HO_6.out⟩, ⟨by repeat (first | (with_reducible first | exact HB.out | apply ba_ | apply bn_ | apply bd_) | exact HB.out)⟩⟩
            case round =>
             clear H'
             try clear c1
             try clear p1
             try clear q1
             try clear hx1
             try clear p2
             try clear c4
             try clear c4b0
             try clear c5
             try clear c5b0
             try clear c6
             try clear c6b0
             try clear p6
             try clear c7
             try clear c8
             try clear c8b0
             try clear c9
             try clear c9b0
             try clear c9b1
             try clear c10
             try clear c10b0
             try clear c10b1
             try clear c14
             try clear c14b0
             try clear c15
             try clear c15b0
             try clear c16
             try clear c16b0
             try clear c17
             try clear p17
             try clear q17
             try clear hx17
             try clear hf17
             try clear c18
             try clear hx18
             try clear hf18
             try clear hx17_0
             try clear hx17_1
             try clear hx17_2
             try clear hx17_3
             try clear hx17_4
             try clear hx18_0
             try clear hx18_1
             try clear hx18_2
             try clear hx18_3
             try clear hx18_4
             try clear p17
             try clear p2
             try clear p6
             try clear q17
             obtain ⟨x6_3, x40_3, rfl, HA, HK3, HO_6, HB⟩ := hrel
             have hl6_3 := (Kd.S_reads' HO_6.out).1
             rw [hl6_3] at HO_6
             (try simp only [hl6_3])
             cases gk with
             | zero => exact absurd HA.out (by simp [conf_Begin.l1])
             | succ k3 =>
              have H := HA.out
              clear HA
              simp only [conf_Begin.l1] at H
              by_cases c20 : x40_3 < a1
              ·rw [if_pos c20] at H
               have c20b0 : decide (x40_3 < a1) = true := decide_eq_true c20
               clear c20
               by_cases c21 : 0 ≤ x31_2
               ·rw [if_pos c21] at H
                have c21b0 : decide (0 ≤ x31_2) = true := decide_eq_true c21
                clear c21
                by_cases c22 : x31_2 < (x6_3.length : Int)
                ·rw [if_pos c22] at H
                 have c22b0 : decide (x31_2 < (x6_3.length : Int)) = true := decide_eq_true c22
                 clear c22
                 by_cases c23 : ((rd_T54 x6_3 x31_2).f2).length < 17592186044416
                 ·rw [if_pos c23] at H
                  have LMc23 := am_ c23
                  clear c23
                  obtain ⟨y186, hy186⟩ : ∃ y_ : List Int, y_ = (((rd_T54 x6_3 x31_2).f2) ++ [wrap64 ((wrap64 ((wrap64 (x31_2 * a1)) + x40_3)) + 1)]) := ⟨_, rfl⟩
                  replace H : (conf_Begin.l1 k3 a1 (x6_3.set (x31_2 : Int).toNat (⟨(rd_T54 x6_3 x31_2).f0, (rd_T54 x6_3 x31_2).f1, y186, (rd_T54 x6_3 x31_2).f3, (rd_T54 x6_3 x31_2).f4⟩ : S54)) x31_2 (y181.length : Int) x31_2 a1 (wrap64 (x40_3 + 1))) = some (r1, r2) := by first | (rw [hy186]; with_reducible exact H) | (have H2_ := (ob_ _ _).symm.trans H; rw [hy186]; with_reducible exact H2_) | (have H2_ := (ob_ _ _).symm.trans H; with_reducible exact H2_) | with_reducible exact H | (rw [hy186]; exact H) | exact H
                  have Ny186 := am_ hy186
                  clear hy186
                  obtain ⟨y189, hy189⟩ : ∃ y_ : List (S54), y_ = (x6_3.set (x31_2 : Int).toNat (⟨(rd_T54 x6_3 x31_2).f0, (rd_T54 x6_3 x31_2).f1, y186, (rd_T54 x6_3 x31_2).f3, (rd_T54 x6_3 x31_2).f4⟩ : S54)) := ⟨_, rfl⟩
                  replace H : (conf_Begin.l1 k3 a1 y189 x31_2 (y181.length : Int) x31_2 a1 (wrap64 (x40_3 + 1))) = some (r1, r2) := by first | (rw [hy189]; with_reducible exact H) | (have H2_ := (ob_ _ _).symm.trans H; rw [hy189]; with_reducible exact H2_) | (have H2_ := (ob_ _ _).symm.trans H; with_reducible exact H2_) | with_reducible exact H | (rw [hy189]; exact H) | exact H
                  have Ny189 := am_ hy189
                  clear hy189
                  have H' := am_ H
                  clear H
                  have p185 : 0 ≤ (x31_2 : Int) := od_ (by first | (with_reducible assumption) | assumption)
                  have q185 : x31_2 < (x6_3.length : Int) := od_ (by first | (with_reducible assumption) | assumption)
                  obtain ⟨ad185, A185_2, c185_2, e185, hx185_0, hx185_1, hx185_2, hx185_3, hx185_4, hl185_2, hi185_2⟩ := at_T54 (Kd.S_reads' HO_6.out).2.2 x31_2 p185 q185
                  obtain rfl : (⟨go17, 0, none⟩ : Addr) = ad185 := (by injection e185)
                  obtain ⟨ce185, hce185, hMe185, hcc185⟩ := Kd.S_get HO_6.out z54 x31_2 p185 (by first | exact q185 | exact od_ (by first | (with_reducible assumption) | assumption) | (have e_ := (Kd.S_reads' HO_6.out).1; omega))
                  obtain ⟨ve185_2, rfl, ge185_2⟩ := k54_openM hMe185
                  have hv185_2 := hcc185 2 _ rfl
                  rw [add_field _ _ 2 (by omega)] at hv185_2
                  replace hv185_2 := Option.some.inj (hv185_2.symm.trans hx185_2)
                  rw [hv185_2] at ge185_2
                  have HL185_2 := am_ (show Kd.R (Kd.int .i64) 3 _ _ _ _ ((rd_T54 x6_3 x31_2).f2) from ge185_2)
                  clear hv185_2 ge185_2
                  have HX185_2 := am_ hx185_2
                  clear hcc185 hce185
                  (first | simp only [add_plain] at hx185_0 | simp only [add_at] at hx185_0 | simp only [Addr.add, Nat.zero_add] at hx185_0 | skip)
                  (first | simp only [add_plain] at hx185_1 | simp only [add_at] at hx185_1 | simp only [Addr.add, Nat.zero_add] at hx185_1 | skip)
                  (first | simp only [add_plain] at hx185_2 | simp only [add_at] at hx185_2 | simp only [Addr.add, Nat.zero_add] at hx185_2 | skip)
                  (first | simp only [add_plain] at hx185_3 | simp only [add_at] at hx185_3 | simp only [Addr.add, Nat.zero_add] at hx185_3 | skip)
                  (first | simp only [add_plain] at hx185_4 | simp only [add_at] at hx185_4 | simp only [Addr.add, Nat.zero_add] at hx185_4 | skip)
                  have HR185_2 := am_ hi185_2
                  have HC185_2 := am_ hl185_2
                  clear hi185_2 hl185_2
                  replace p185 := eq_true p185
                  replace q185 := eq_true q185
                  obtain ⟨oki25, ce25, hcl25, hM25, hcc25, _, _, hH25⟩ := Kd.S_elem HO_6.out z54 (x31_2 : Int) (od_ (by first | (with_reducible assumption) | assumption)) (by have h_ : (x31_2 : Int) < ((x6_3.length : Int) : Int) := od_ (by first | (with_reducible assumption) | assumption); first | exact h_ | (have e_ := (Kd.S_reads' HO_6.out).1; omega) | simpa using h_)
                  obtain ⟨ve25_2, rfl, ge25_2⟩ := k54_openM hM25
                  have hv25 := hcc25 2 _ rfl
                  have hX25 := HX185_2.out
                  (try simp only [add_plain] at hX25)
                  (try simp only [Nat.add_zero] at hv25)
                  replace hv25 := Option.some.inj (hv25.symm.trans hX25)
                  subst hv25
                  clear hX25 hcc25 hcl25
                  have UU25 := am_ (show Kd.R (Kd.int .i64) 3 _ w.heap.size oki25 (.slice A185_2 ((rd_T54 x6_3 x31_2).f2).length c185_2) ((rd_T54 x6_3 x31_2).f2) from ge25_2)
                  have HH25 := am_ hH25
                  have HN25 := am_ (Kd.S_reads' HO_6.out).1
                  clear hH25 ge25_2
                  go_wp2_with (first | ((with_reducible refine gate_builtin (b := .append) (xs := #[.tmp 49, .tmp 56]) rfl ?_); at_builtin; refine Kd.R_append (Kd.int .i64) (w0 := w) w.heap.size rfl (.tmp 49) (.tmp 56) 52 3 (.int .i64 0) 8 rfl Tryd.underlying52 info3 rfl (by decide) (by omega) (.slice A185_2 ((rd_T54 x6_3 x31_2).f2).length c185_2) ((rd_T54 x6_3 x31_2).f2) (wrap64 ((wrap64 ((wrap64 (x31_2 * a1)) + x40_3)) + 1)) [.int .i64 (wrap64 ((wrap64 ((wrap64 (x31_2 * a1)) + x40_3)) + 1))] (fun k_ => oki25 k_ ∨ ((fun _ => True)) k_ ∧ wr.heap.size ≤ k_) (fun _ => False) rfl rfl ?aP (fun _ hk => hk.elim) ?aF ?aO ?aB ?aS ?aL ?_; (case aP => exact rfl); (case aB => exact (by repeat (first | (with_reducible first | exact HB.out | apply ba_ | apply bn_ | apply bd_) | exact HB.out))); (case aF => exact (fun k_ hk => .inr ⟨trivial, hk⟩)); (case aO => exact (by (with_reducible repeat (first | apply Kd.R_alloc | apply Kd.R_drewN | apply Kd.R_drew)); exact Kd.R_mono UU25.out (fun _ hk => .inl hk))); (case aS => exact (bs_ (by repeat (first | (with_reducible first | exact HB.out | apply ba_ | apply bn_ | apply bd_) | exact HB.out)))); (case aL => have := LMc23.out; omega); intro v187 w26 ho hb hg hat; rw [← Ny186.out] at ho; have n0_ := am_ (hb); have n1_ := am_ (Kd.H_grown (Kd.H_widen (by repeat (first | exact HH25.out | refine Kd.H_alloc ?_ _ | refine Kd.H_drewN ?_ _ | refine Kd.H_drew ?_))) hg (fun k_ e_ => .inl (UU25.out.1 k_ e_))); have n2_ := am_ (ho); clear HB; clear HH25; clear HO_6; clear UU25; clear HL185_2; have HB := n0_; have HH25 := n1_; have HO188 := n2_; clear n0_ n1_ n2_; clear ho hb hg hat; have p24 : 0 ≤ (x31_2 : Int) := od_ (by first | (with_reducible assumption) | assumption); have q24 : (x31_2 : Int) < ((x6_3.length : Int) : Int) := od_ (by first | (with_reducible assumption) | assumption); replace p24 := eq_true p24; replace q24 := eq_true q24; obtain ⟨Ao29, co29, eo29⟩ := Kd.R_slice HO188.out; subst eo29; obtain ⟨_, _, hraw27, _, _, hcc27, _⟩ := Kd.H_raw HH25.out (od_ (by first | (with_reducible assumption) | assumption)) (by have h_ : (x31_2 : Int) < ((x6_3.length : Int) : Int) := od_ (by first | (with_reducible assumption) | assumption); first | exact h_ | (have e_ := (HN25.out); omega) | simpa using h_); obtain ⟨_, hfr27⟩ := Kd.H_at HH25.out (od_ (by first | (with_reducible assumption) | assumption)) (by have h_ : (x31_2 : Int) < ((x6_3.length : Int) : Int) := od_ (by first | (with_reducible assumption) | assumption); first | exact h_ | (have e_ := (HN25.out); omega) | simpa using h_); have hx27_0 := hcc27 2 _ rfl; have hf27_0 := hfr27 2; (try rw [show (k54).sz = 5 from rfl] at hx27_0); (try rw [show (k54).sz = 5 from rfl] at hf27_0); have HP27 := Kd.S_seg0 HH25.out (od_ (by first | (with_reducible assumption) | assumption)) (by have h_ : (x31_2 : Int) < ((x6_3.length : Int) : Int) := od_ (by first | (with_reducible assumption) | assumption); first | exact h_ | (have e_ := (HN25.out); omega) | simpa using h_) (seg := [.slice Ao29 y186.length co29]) (j := 2) (show 3 ≤ 5 from by decide) (x' := (⟨(rd_T54 x6_3 x31_2).f0, (rd_T54 x6_3 x31_2).f1, y186, (rd_T54 x6_3 x31_2).f3, (rd_T54 x6_3 x31_2).f4⟩ : S54)) (k54_mkM _ _ _ (⟨(rd_T54 x6_3 x31_2).f0, (rd_T54 x6_3 x31_2).f1, y186, (rd_T54 x6_3 x31_2).f3, (rd_T54 x6_3 x31_2).f4⟩ : S54) HO188.out) (fun _ hk => hk); clear hcc27 hfr27) | ((with_reducible refine gate_store (t := 52) (p := 59) rfl ?_); refine store_event (t := 52) (p := 59) (v := ?vo_w28) (w1 := (w26.setCell ⟨go17, (x31_2 : Int).toNat * 5 + 2, none⟩ (.slice Ao29 y186.length co29))) ?hg ?ho ?hn ?hr ?_; (case ho => rfl); (case hg => rfl); (case hn => rfl); (case hr => first | (go_simp; done) | (go_simp; rfl)); intro w28 hw; have hg : w26.grownBy w28 (some go17) := (by rw [hw]; exact HP27.2); have hp_ : Kd.S k54 54 w28 w.heap.size (fun _ => True) (.slice (some ⟨go17, 0, none⟩) x6_3.length co13) y189 := (by rw [hw, Ny189.out]; exact HP27.1); clear HP27; have n0_ := am_ ((by rw [hw]; exact be_ HB.out GB17.out : Below w.heap.size w w28)); have n1_ := am_ (hp_); clear HB; clear HO188; clear HH25; have HB := n0_; have HO_6 := n1_; clear n0_ n1_; clear hg hw hp_ hraw27))
                  (try simp only [← hl6_3])
                  go_roundg k3
                  case measure => have := HJ2.out; have := HK2.out; have := HK3.out; omega
                  case rel => exact ⟨(y189), (wrap64 (x40_3 + 1)), (by first | rfl | (simp; done) | (simp [*]; done)), H', ⟨by have := HJ2.out; have := HK2.out; have := HK3.out; omega⟩, ⟨by (try simp only [hl6_2]); (try simp only [hl6_3]); (with_reducible repeat (first | apply Kd.S_alloc | apply Kd.S_drewN | apply Kd.S_drew)); exact HO_6.out⟩, ⟨by repeat (first | (with_reducible first | exact HB.out | apply ba_ | apply bn_ | apply bd_) | exact HB.out)⟩⟩
                 ·rw [if_neg c23] at H
                  exact absurd H (by simp)
                ·rw [if_neg c22] at H
                 exact absurd H (by simp)
               ·rw [if_neg c21] at H
                exact absurd H (by simp)
              ·rw [if_neg c20] at H
               have c20b0 : decide (x40_3 < a1) = false := decide_eq_false c20
               clear c20
               have H' := am_ H
               clear H
               go_wp2
               (try simp only [← hl6_2, ← hl6_3])
               go_roundg k3
               case measure => have := HJ2.out; have := HK2.out; have := HK3.out; omega
               case rel => exact ⟨(x6_3), (wrap64 (x31_2 + 1)), (by first | rfl | (simp; done) | (simp [*]; done)), H', ⟨by have := HJ2.out; have := HK2.out; have := HK3.out; omega⟩, ⟨by (try simp only [hl6_2]); (try simp only [hl6_3]); (with_reducible repeat (first | apply Kd.S_alloc | apply Kd.S_drewN | apply Kd.S_drew)); exact HO_6.out⟩, ⟨by repeat (first | (with_reducible first | exact HB.out | apply ba_ | apply bn_ | apply bd_) | exact HB.out)⟩⟩
           ·rw [if_neg c16] at H
            exact absurd H (by simp)
          ·rw [if_neg c15] at H
           exact absurd H (by simp)
         ·rw [if_neg c14] at H
          have c14b0 : decide (x31_2 < (y181.length : Int)) = false := decide_eq_false c14
          (try (have c14b0_ := c14b0; simp only [hl6_3] at c14b0_))
          (try (have c14b0_ := c14b0; simp only [hl6_2] at c14b0_))
          clear c14
          simp only [Option.some.injEq, Prod.mk.injEq] at H
          obtain ⟨rfl, rfl⟩ := H
          go_wp2
          go_ret2
          exact ⟨_, by first | rfl | (simp [errW_none, errW_some] <;> rfl) | (simp [*, errW_none, errW_some] <;> rfl), by (with_reducible repeat (first | apply Kd.S_alloc | apply Kd.S_drewN | apply Kd.S_drew)); exact HO_6.out, by repeat (first | (with_reducible first | exact HB.out | apply ba_ | apply bn_ | apply bd_) | exact HB.out)⟩
      ·rw [if_neg c10] at H
       exact absurd H (by simp)
     ·rw [if_neg c9] at H
      exact absurd H (by simp)
def catenaryref04_Has.l0 : Nat → List Int → Int → Int → Option (Bool)
 | 0, _, _, _ => none
 | k + 1, x0, x1, x5 => if x5 < (x0.length : Int) then (if 0 ≤ x5 then (if (rd x0 x5) = x1 then (some true) else (catenaryref04_Has.l0 k x0 x1 (wrap64 (x5 + 1)))) else (none)) else (some false)
def catenaryref04_Has.f (k : Nat) (l0 : List Int) (a1 : Int) : Option (Bool) := catenaryref04_Has.l0 k l0 a1 0
set_option maxHeartbeats 8000000 in
set_option maxRecDepth 100000 in
theorem catenaryref04_Has.calls (k : Nat) (A0 : Option Addr) (c0 : Nat) (l0 : List Int) (a1 : Int) (r : Bool) (w : World) (hr0 : Kd.C (Kd.int .i64) w A0 l0.length l0) (hc0 : l0.length ≤ c0) (h : catenaryref04_Has.f k l0 a1 = some r) :
  Calls Tryd.prog 74 #[.slice A0 l0.length c0, .int .i64 a1] w fun e w' => e = .returned (.bool r) ∧ Drawn0 w w' := by
 have HR0 := am_ hr0
 have HC0 := am_ hc0
 clear hr0 hc0
 have H : (catenaryref04_Has.l0 k l0 a1 0) = some r := h
 clear h
 have H' := am_ H
 clear H
 go_enter Tryd.func74, Tryd.ntmps74
 go_wp2
 go_loopg [5] k (fun kq v5 w' => ∃ (x5_1 : Int), v5 = .int .i64 x5_1 ∧ Aside0 (catenaryref04_Has.l0 kq l0 a1 x5_1 = some r) ∧ Aside0 (kq ≤ k) ∧ Drawn0 w w')
 case atStart => exact ⟨(0), (by first | rfl | (simp; done) | (simp [*]; done)), H', ⟨Nat.le_refl _⟩, by repeat (first | exact Drawn0.refl _ | apply Drawn0.step)⟩
 case round =>
  clear H'
  try clear p2
  obtain ⟨x5_1, rfl, HA, HK1, ⟨m1, rfl⟩⟩ := hrel
  cases gk with
  | zero => exact absurd HA.out (by simp [catenaryref04_Has.l0])
  | succ k1 =>
   have H := HA.out
   clear HA
   simp only [catenaryref04_Has.l0] at H
   by_cases c3 : x5_1 < (l0.length : Int)
   ·rw [if_pos c3] at H
    have c3b0 : decide (x5_1 < (l0.length : Int)) = true := decide_eq_true c3
    clear c3
    by_cases c4 : 0 ≤ x5_1
    ·rw [if_pos c4] at H
     have c4b0 : decide (0 ≤ x5_1) = true := decide_eq_true c4
     clear c4
     by_cases c5 : (rd l0 x5_1) = a1
     ·rw [if_pos c5] at H
      have c5b0 : ((rd l0 x5_1) == a1) = true := beq_iff_eq.mpr c5
      have c5b1 : ((rd l0 x5_1) != a1) = false := bne_eq_false_iff_eq.mpr c5
      clear c5
      obtain rfl := Option.some.inj H
      have p204 : 0 ≤ (x5_1 : Int) := od_ (by first | (with_reducible assumption) | assumption)
      have q204 : x5_1 < (l0.length : Int) := od_ (by first | (with_reducible assumption) | assumption)
      obtain ⟨ad204, e204, hx204_0⟩ := Kd.at_int HR0.out x5_1 p204 q204
      cases e204
      replace p204 := eq_true p204
      replace q204 := eq_true q204
      go_wp2
      go_ret
      exact ⟨by first | rfl | (simp; done) | (simp [*]; done), by repeat (first | exact Drawn0.refl _ | apply Drawn0.step)⟩
     ·rw [if_neg c5] at H
      have c5b0 : ((rd l0 x5_1) == a1) = false := beq_eq_false_iff_ne.mpr c5
      have c5b1 : ((rd l0 x5_1) != a1) = true := bne_iff_ne.mpr c5
      have H' := am_ H
      clear H
      have p204 : 0 ≤ (x5_1 : Int) := od_ (by first | (with_reducible assumption) | assumption)
      have q204 : x5_1 < (l0.length : Int) := od_ (by first | (with_reducible assumption) | assumption)
      obtain ⟨ad204, e204, hx204_0⟩ := Kd.at_int HR0.out x5_1 p204 q204
      cases e204
      replace p204 := eq_true p204
      replace q204 := eq_true q204
      go_wp2
      go_roundg k1
      case measure => have := HK1.out; omega
      case rel => exact ⟨(wrap64 (x5_1 + 1)), (by first | rfl | (simp; done) | (simp [*]; done)), H', ⟨by have := HK1.out; omega⟩, by repeat (first | exact Drawn0.refl _ | apply Drawn0.step)⟩
    ·rw [if_neg c4] at H
     exact absurd H (by simp)
   ·rw [if_neg c3] at H
    have c3b0 : decide (x5_1 < (l0.length : Int)) = false := decide_eq_false c3
    clear c3
    obtain rfl := Option.some.inj H
    go_wp2
    go_ret
    exact ⟨by first | rfl | (simp; done) | (simp [*]; done), by repeat (first | exact Drawn0.refl _ | apply Drawn0.step)⟩
def catenaryref09_Unlike.l0 : Nat → List Int → Int → Option (Bool)
 | 0, _, _ => none
 | k + 1, x0, x3 => if x3 < (x0.length : Int) then (if 0 ≤ x3 then (if (rd x0 x3) < 1 then (some false) else (if (rd x0 x3) > 24 then (some false) else (if x3 ≤ (x0.length : Int) then ((catenaryref04_Has.f k (x0.take (x3 : Int).toNat) (rd x0 x3)).bind fun t209 => (if t209 = true then (some false) else (catenaryref09_Unlike.l0 k x0 (wrap64 (x3 + 1))))) else (none)))) else (none)) else (some true)
def catenaryref09_Unlike.f (k : Nat) (l0 : List Int) : Option (Bool) := catenaryref09_Unlike.l0 k l0 0
set_option maxHeartbeats 8000000 in
set_option maxRecDepth 100000 in
theorem catenaryref09_Unlike.calls (k : Nat) (A0 : Option Addr) (c0 : Nat) (l0 : List Int) (r : Bool) (w : World) (hr0 : Kd.C (Kd.int .i64) w A0 l0.length l0) (hc0 : l0.length ≤ c0) (h : catenaryref09_Unlike.f k l0 = some r) :
  Calls Tryd.prog 68 #[.slice A0 l0.length c0] w fun e w' => e = .returned (.bool r) ∧ Drawn0 w w' := by
 have HR0 := am_ hr0
 have HC0 := am_ hc0
 clear hr0 hc0
 have H : (catenaryref09_Unlike.l0 k l0 0) = some r := h
 clear h
 have H' := am_ H
 clear H
 go_enter Tryd.func68, Tryd.ntmps68
 go_wp2
 repeat (go_quiet (fail); try go_wp2)
 go_loopg [3] k (fun kq v3 w' => ∃ (x3_1 : Int), v3 = .int .i64 x3_1 ∧ Aside0 (catenaryref09_Unlike.l0 kq l0 x3_1 = some r) ∧ Aside0 (kq ≤ k) ∧ Drawn0 w w')
 case atStart => exact ⟨(0), (by first | rfl | (simp; done) | (simp [*]; done)), H', ⟨Nat.le_refl _⟩, by repeat (first | exact Drawn0.refl _ | apply Drawn0.step)⟩
 case round =>
  clear H'
  obtain ⟨x3_1, rfl, HA, HK1, ⟨m1, rfl⟩⟩ := hrel
  cases gk with
  | zero => exact absurd HA.out (by simp [catenaryref09_Unlike.l0])
  | succ k1 =>
   have H := HA.out
   clear HA
   simp only [catenaryref09_Unlike.l0] at H
   by_cases c2 : x3_1 < (l0.length : Int)
   ·rw [if_pos c2] at H
    have c2b0 : decide (x3_1 < (l0.length : Int)) = true := decide_eq_true c2
    clear c2
    by_cases c3 : 0 ≤ x3_1
    ·rw [if_pos c3] at H
     have c3b0 : decide (0 ≤ x3_1) = true := decide_eq_true c3
     clear c3
     by_cases c4 : (rd l0 x3_1) < 1
     ·rw [if_pos c4] at H
      have c4b0 : decide ((rd l0 x3_1) < 1) = true := decide_eq_true c4
      clear c4
      obtain rfl := Option.some.inj H
      have p205 : 0 ≤ (x3_1 : Int) := od_ (by first | (with_reducible assumption) | assumption)
      have q205 : x3_1 < (l0.length : Int) := od_ (by first | (with_reducible assumption) | assumption)
      obtain ⟨ad205, e205, hx205_0⟩ := Kd.at_int HR0.out x3_1 p205 q205
      cases e205
      replace p205 := eq_true p205
      replace q205 := eq_true q205
      go_wp2
      repeat (go_quiet (fail); try go_wp2)
      go_ret
      exact ⟨by first | rfl | (simp; done) | (simp [*]; done), by repeat (first | exact Drawn0.refl _ | apply Drawn0.step)⟩
     ·rw [if_neg c4] at H
      have c4b0 : decide ((rd l0 x3_1) < 1) = false := decide_eq_false c4
      clear c4
      by_cases c5 : (rd l0 x3_1) > 24
      ·rw [if_pos c5] at H
       have c5b0 : decide (24 < (rd l0 x3_1)) = true := decide_eq_true c5
       clear c5
       obtain rfl := Option.some.inj H
       have p205 : 0 ≤ (x3_1 : Int) := od_ (by first | (with_reducible assumption) | assumption)
       have q205 : x3_1 < (l0.length : Int) := od_ (by first | (with_reducible assumption) | assumption)
       obtain ⟨ad205, e205, hx205_0⟩ := Kd.at_int HR0.out x3_1 p205 q205
       cases e205
       replace p205 := eq_true p205
       replace q205 := eq_true q205
       have p206 : 0 ≤ (x3_1 : Int) := od_ (by first | (with_reducible assumption) | assumption)
       have q206 : x3_1 < (l0.length : Int) := od_ (by first | (with_reducible assumption) | assumption)
       obtain ⟨ad206, e206, hx206_0⟩ := Kd.at_int HR0.out x3_1 p206 q206
       obtain rfl : ad205 = ad206 := (by injection e206)
       replace p206 := eq_true p206
       replace q206 := eq_true q206
       go_wp2
       repeat (go_quiet (fail); try go_wp2)
       go_ret
       exact ⟨by first | rfl | (simp; done) | (simp [*]; done), by repeat (first | exact Drawn0.refl _ | apply Drawn0.step)⟩
      ·rw [if_neg c5] at H
       have c5b0 : decide (24 < (rd l0 x3_1)) = false := decide_eq_false c5
       clear c5
       have c6b0 := eq_true (od_ (by first | (with_reducible assumption) | assumption) : 0 ≤ x3_1)
       by_cases c7 : x3_1 ≤ (l0.length : Int)
       ·rw [if_pos c7] at H
        have c7b0 := eq_true c7
        have c7b1 : decide (x3_1 ≤ (l0.length : Int)) = true := decide_eq_true c7
        clear c7
        replace H := Option.bind_eq_some_iff.mp H
        obtain ⟨t209, A80, H⟩ := H
        replace H : (if t209 = true then (some false) else (catenaryref09_Unlike.l0 k1 l0 (wrap64 (x3_1 + 1)))) = some r := H
        have A8 := am_ A80
        clear A80
        by_cases c9 : t209 = true
        ·subst c9
         have H1 : (some false) = some r := by rw [if_pos rfl] at H; exact H
         clear H
         have H := H1
         clear H1
         obtain rfl := Option.some.inj H
         have p205 : 0 ≤ (x3_1 : Int) := od_ (by first | (with_reducible assumption) | assumption)
         have q205 : x3_1 < (l0.length : Int) := od_ (by first | (with_reducible assumption) | assumption)
         obtain ⟨ad205, e205, hx205_0⟩ := Kd.at_int HR0.out x3_1 p205 q205
         cases e205
         replace p205 := eq_true p205
         replace q205 := eq_true q205
         have p206 : 0 ≤ (x3_1 : Int) := od_ (by first | (with_reducible assumption) | assumption)
         have q206 : x3_1 < (l0.length : Int) := od_ (by first | (with_reducible assumption) | assumption)
         obtain ⟨ad206, e206, hx206_0⟩ := Kd.at_int HR0.out x3_1 p206 q206
         obtain rfl : ad205 = ad206 := (by injection e206)
         replace p206 := eq_true p206
         replace q206 := eq_true q206
         obtain ⟨i010, hi010, _, hsz10, _⟩ := info_parts info3
         obtain ⟨hcut10, hA10, hC10⟩ := print_take_of (P := Tryd.prog) (Value.int .i64) 0 52 3 .i64 Tryd.underlying52 hi010 hsz10 (some ad205) c0 l0 x3_1 (od_ (by first | (with_reducible assumption) | assumption)) (od_ (by first | (with_reducible assumption) | assumption)) HC0.out
         have HR207 := am_ (Kd.C_of_reads (h1 := fun _ => rfl) (hA10 _ (Kd.reads_of_C HR0.out)))
         have HC207 := am_ hC10
         clear hA10 hC10 hi010 hsz10
         have p208 : 0 ≤ (x3_1 : Int) := od_ (by first | (with_reducible assumption) | assumption)
         have q208 : x3_1 < (l0.length : Int) := od_ (by first | (with_reducible assumption) | assumption)
         obtain ⟨ad208, e208, hx208_0⟩ := Kd.at_int HR0.out x3_1 p208 q208
         obtain rfl : ad205 = ad208 := (by injection e208)
         replace p208 := eq_true p208
         replace q208 := eq_true q208
         go_wp2_with (first | (go_at_call 74; (refine (calls_cut (by rw [lt_]; have a_ := of_eq_true p208; have b_ := of_eq_true q208; omega) (catenaryref04_Has.calls k1 _ _ (l0.take (x3_1 : Int).toNat) (rd l0 x3_1) true _ ?side1 ?side2 A8.out)).mono ?_); (case side1 => repeat (first | exact HR207.out | (with_reducible refine Kd.C_alloc ?_ _) | (with_reducible refine Kd.C_drewN ?_ _) | (with_reducible refine Kd.C_drew ?_))); (case side2 => exact HC207.out); rintro e w' ⟨rfl, ⟨nd, rfl⟩⟩; (try first | exact ⟨rfl, _, World.drewN_drewN _ _ _⟩ | exact ⟨rfl, _, Eq.trans (World.drewN_drewN _ _ _) (congrArg (World.drewN _) (Nat.add_assoc _ _ _))⟩)))
         repeat (go_quiet (first | (go_at_call 74; (refine (calls_cut (by rw [lt_]; have a_ := of_eq_true p208; have b_ := of_eq_true q208; omega) (catenaryref04_Has.calls k1 _ _ (l0.take (x3_1 : Int).toNat) (rd l0 x3_1) true _ ?side1 ?side2 A8.out)).mono ?_); (case side1 => repeat (first | exact HR207.out | (with_reducible refine Kd.C_alloc ?_ _) | (with_reducible refine Kd.C_drewN ?_ _) | (with_reducible refine Kd.C_drew ?_))); (case side2 => exact HC207.out); rintro e w' ⟨rfl, ⟨nd, rfl⟩⟩; (try first | exact ⟨rfl, _, World.drewN_drewN _ _ _⟩ | exact ⟨rfl, _, Eq.trans (World.drewN_drewN _ _ _) (congrArg (World.drewN _) (Nat.add_assoc _ _ _))⟩))); try go_wp2_with (first | (go_at_call 74; (refine (calls_cut (by rw [lt_]; have a_ := of_eq_true p208; have b_ := of_eq_true q208; omega) (catenaryref04_Has.calls k1 _ _ (l0.take (x3_1 : Int).toNat) (rd l0 x3_1) true _ ?side1 ?side2 A8.out)).mono ?_); (case side1 => repeat (first | exact HR207.out | (with_reducible refine Kd.C_alloc ?_ _) | (with_reducible refine Kd.C_drewN ?_ _) | (with_reducible refine Kd.C_drew ?_))); (case side2 => exact HC207.out); rintro e w' ⟨rfl, ⟨nd, rfl⟩⟩; (try first | exact ⟨rfl, _, World.drewN_drewN _ _ _⟩ | exact ⟨rfl, _, Eq.trans (World.drewN_drewN _ _ _) (congrArg (World.drewN _) (Nat.add_assoc _ _ _))⟩))))
         go_ret
         exact ⟨by first | rfl | (simp; done) | (simp [*]; done), by repeat (first | exact Drawn0.refl _ | apply Drawn0.step)⟩
        ·replace c9 := Bool.eq_false_iff.mpr c9
         subst c9
         have H1 : (catenaryref09_Unlike.l0 k1 l0 (wrap64 (x3_1 + 1))) = some r := by rw [if_neg (show ¬ (false = true) by decide)] at H; exact H
         clear H
         have H := H1
         clear H1
         have H' := am_ H
         clear H
         have p205 : 0 ≤ (x3_1 : Int) := od_ (by first | (with_reducible assumption) | assumption)
         have q205 : x3_1 < (l0.length : Int) := od_ (by first | (with_reducible assumption) | assumption)
         obtain ⟨ad205, e205, hx205_0⟩ := Kd.at_int HR0.out x3_1 p205 q205
         cases e205
         replace p205 := eq_true p205
         replace q205 := eq_true q205
         have p206 : 0 ≤ (x3_1 : Int) := od_ (by first | (with_reducible assumption) | assumption)
         have q206 : x3_1 < (l0.length : Int) := od_ (by first | (with_reducible assumption) | assumption)
         obtain ⟨ad206, e206, hx206_0⟩ := Kd.at_int HR0.out x3_1 p206 q206
         obtain rfl : ad205 = ad206 := (by injection e206)
         replace p206 := eq_true p206
         replace q206 := eq_true q206
         obtain ⟨i011, hi011, _, hsz11, _⟩ := info_parts info3
         obtain ⟨hcut11, hA11, hC11⟩ := print_take_of (P := Tryd.prog) (Value.int .i64) 0 52 3 .i64 Tryd.underlying52 hi011 hsz11 (some ad205) c0 l0 x3_1 (od_ (by first | (with_reducible assumption) | assumption)) (od_ (by first | (with_reducible assumption) | assumption)) HC0.out
         have HR207 := am_ (Kd.C_of_reads (h1 := fun _ => rfl) (hA11 _ (Kd.reads_of_C HR0.out)))
         have HC207 := am_ hC11
         clear hA11 hC11 hi011 hsz11
         have p208 : 0 ≤ (x3_1 : Int) := od_ (by first | (with_reducible assumption) | assumption)
         have q208 : x3_1 < (l0.length : Int) := od_ (by first | (with_reducible assumption) | assumption)
         obtain ⟨ad208, e208, hx208_0⟩ := Kd.at_int HR0.out x3_1 p208 q208
         obtain rfl : ad205 = ad208 := (by injection e208)
         replace p208 := eq_true p208
         replace q208 := eq_true q208
         go_wp2_with (first | (go_at_call 74; (refine (calls_cut (by rw [lt_]; have a_ := of_eq_true p208; have b_ := of_eq_true q208; omega) (catenaryref04_Has.calls k1 _ _ (l0.take (x3_1 : Int).toNat) (rd l0 x3_1) false _ ?side1 ?side2 A8.out)).mono ?_); (case side1 => repeat (first | exact HR207.out | (with_reducible refine Kd.C_alloc ?_ _) | (with_reducible refine Kd.C_drewN ?_ _) | (with_reducible refine Kd.C_drew ?_))); (case side2 => exact HC207.out); rintro e w' ⟨rfl, ⟨nd, rfl⟩⟩; (try first | exact ⟨rfl, _, World.drewN_drewN _ _ _⟩ | exact ⟨rfl, _, Eq.trans (World.drewN_drewN _ _ _) (congrArg (World.drewN _) (Nat.add_assoc _ _ _))⟩)))
         repeat (go_quiet (first | (go_at_call 74; (refine (calls_cut (by rw [lt_]; have a_ := of_eq_true p208; have b_ := of_eq_true q208; omega) (catenaryref04_Has.calls k1 _ _ (l0.take (x3_1 : Int).toNat) (rd l0 x3_1) false _ ?side1 ?side2 A8.out)).mono ?_); (case side1 => repeat (first | exact HR207.out | (with_reducible refine Kd.C_alloc ?_ _) | (with_reducible refine Kd.C_drewN ?_ _) | (with_reducible refine Kd.C_drew ?_))); (case side2 => exact HC207.out); rintro e w' ⟨rfl, ⟨nd, rfl⟩⟩; (try first | exact ⟨rfl, _, World.drewN_drewN _ _ _⟩ | exact ⟨rfl, _, Eq.trans (World.drewN_drewN _ _ _) (congrArg (World.drewN _) (Nat.add_assoc _ _ _))⟩))); try go_wp2_with (first | (go_at_call 74; (refine (calls_cut (by rw [lt_]; have a_ := of_eq_true p208; have b_ := of_eq_true q208; omega) (catenaryref04_Has.calls k1 _ _ (l0.take (x3_1 : Int).toNat) (rd l0 x3_1) false _ ?side1 ?side2 A8.out)).mono ?_); (case side1 => repeat (first | exact HR207.out | (with_reducible refine Kd.C_alloc ?_ _) | (with_reducible refine Kd.C_drewN ?_ _) | (with_reducible refine Kd.C_drew ?_))); (case side2 => exact HC207.out); rintro e w' ⟨rfl, ⟨nd, rfl⟩⟩; (try first | exact ⟨rfl, _, World.drewN_drewN _ _ _⟩ | exact ⟨rfl, _, Eq.trans (World.drewN_drewN _ _ _) (congrArg (World.drewN _) (Nat.add_assoc _ _ _))⟩))))
         go_roundg k1
         case measure => have := HK1.out; omega
         case rel => exact ⟨(wrap64 (x3_1 + 1)), (by first | rfl | (simp; done) | (simp [*]; done)), H', ⟨by have := HK1.out; omega⟩, by repeat (first | exact Drawn0.refl _ | apply Drawn0.step)⟩
       ·rw [if_neg c7] at H
        exact absurd H (by simp)
    ·rw [if_neg c3] at H
     exact absurd H (by simp)
   ·rw [if_neg c2] at H
    have c2b0 : decide (x3_1 < (l0.length : Int)) = false := decide_eq_false c2
    clear c2
    obtain rfl := Option.some.inj H
    go_wp2
    repeat (go_quiet (fail); try go_wp2)
    go_ret
    exact ⟨by first | rfl | (simp; done) | (simp [*]; done), by repeat (first | exact Drawn0.refl _ | apply Drawn0.step)⟩
def catenaryref09_Stands.f (a0_0 : Int) (a0_1 : Int) (l0_2 : List Int) (a0_3 : Bool) (a0_4 : Int) : Option (List Int) := if ([] : List Int).length + l0_2.length < 17592186044416 then ((some (([] : List Int) ++ l0_2 : List Int)).bind fun y211 => (if a0_4 = 0 then (some y211) else (if y211.length < 17592186044416 then (some (y211 ++ [a0_4])) else (none)))) else (none)
set_option maxHeartbeats 8000000 in
set_option maxRecDepth 100000 in
theorem catenaryref09_Stands.calls (a0_0 : Int) (a0_1 : Int) (A0_2 : Option Addr) (c0_2 : Nat) (l0_2 : List Int) (a0_3 : Bool) (a0_4 : Int) (r : List Int) (w : World) (hr0_2 : Kd.C (Kd.int .i64) w A0_2 l0_2.length l0_2) (hc0_2 : l0_2.length ≤ c0_2) (h : catenaryref09_Stands.f a0_0 a0_1 l0_2 a0_3 a0_4 = some r) :
  Calls Tryd.prog 69 #[.agg #[.int .i64 a0_0, .int .u64 a0_1, .slice A0_2 l0_2.length c0_2, .bool a0_3, .int .i64 a0_4]] w fun e w' => ∃ v0_ : Value, e = .returned (v0_) ∧ Kd.R (Kd.int .i64) 3 w' w.heap.size (fun _ => True) v0_ r ∧ Below w.heap.size w w' := by
 have hu54 := Tryd.underlying54
 have HR0_2 := am_ hr0_2
 have HC0_2 := am_ hc0_2
 clear hr0_2 hc0_2
 have HB := am_ (Below.refl w.heap.size w)
 have H : (if ([] : List Int).length + l0_2.length < 17592186044416 then ((some (([] : List Int) ++ l0_2 : List Int)).bind fun y211 => (if a0_4 = 0 then (some y211) else (if y211.length < 17592186044416 then (some (y211 ++ [a0_4])) else (none)))) else (none)) = some r := h
 clear h
 by_cases c2 : ([] : List Int).length + l0_2.length < 17592186044416
 ·rw [if_pos c2] at H
  have LMc2 := am_ c2
  clear c2
  obtain ⟨y211, hy211⟩ : ∃ y_ : List Int, y_ = (([] : List Int) ++ l0_2) := ⟨_, rfl⟩
  replace H : (if a0_4 = 0 then (some y211) else (if y211.length < 17592186044416 then (some (y211 ++ [a0_4])) else (none))) = some r := by first | (rw [hy211]; with_reducible exact H) | (have H2_ := (ob_ _ _).symm.trans H; rw [hy211]; with_reducible exact H2_) | (have H2_ := (ob_ _ _).symm.trans H; with_reducible exact H2_) | with_reducible exact H | (rw [hy211]; exact H) | exact H
  have Ny211 := am_ hy211
  clear hy211
  by_cases c3 : a0_4 = 0
  ·rw [if_pos c3] at H
   have c3b0 : (a0_4 == 0) = true := beq_iff_eq.mpr c3
   have c3b1 : (a0_4 != 0) = false := bne_eq_false_iff_eq.mpr c3
   clear c3
   obtain rfl := Option.some.inj H
   go_enter Tryd.func69, Tryd.ntmps69
   go_wp2_with (first | ((with_reducible refine gate_dst (N := 1) rfl ?_); refine box_event ?hg (N := 1) ?hd (cs := #[.int .i64 a0_0, .int .u64 a0_1, .slice A0_2 l0_2.length c0_2, .bool a0_3, .int .i64 a0_4]) (t := 54) ?hr ?_; (case hd => rfl); (case hg => rfl); (case hr => first | (go_simp; done) | (go_simp; rfl)); intro gb210 hg w4 hbox hb; have n0_ := am_ (bt_ (by repeat (first | (with_reducible first | exact HB.out | apply ba_ | apply bn_ | apply bd_) | exact HB.out)) hb); have n1_ := am_ (hbox); have n2_ := am_ ((by rw [hg]; exact (bs_ (by repeat (first | (with_reducible first | exact HB.out | apply ba_ | apply bn_ | apply bd_) | exact HB.out))) : w.heap.size ≤ gb210)); have n3_ := am_ ((by rw [hg]; exact (bs_ (by repeat (first | (with_reducible first | exact HB.out | apply ba_ | apply bn_ | apply bd_) | exact HB.out))) : w.heap.size ≤ gb210)); clear HB; have HB := n0_; have BK210 := n1_; have GW210 := n2_; have GE210 := n3_; clear n0_ n1_ n2_ n3_; clear hb hbox hg; have hcz5_0 : w4.cell? ⟨gb210, 0, none⟩ = some (.int .i64 a0_0) := (bc_ BK210.out 0).trans rfl; have hcz5_1 : w4.cell? ⟨gb210, 1, none⟩ = some (.int .u64 a0_1) := (bc_ BK210.out 1).trans rfl; have hcz5_2 : w4.cell? ⟨gb210, 2, none⟩ = some (.slice A0_2 l0_2.length c0_2) := (bc_ BK210.out 2).trans rfl; have hcz5_3 : w4.cell? ⟨gb210, 3, none⟩ = some (.bool a0_3) := (bc_ BK210.out 3).trans rfl; have hcz5_4 : w4.cell? ⟨gb210, 4, none⟩ = some (.int .i64 a0_4) := (bc_ BK210.out 4).trans rfl; have hfz5_0 := bf_ BK210.out 0; have hfz5_1 := bf_ BK210.out 1; have hfz5_2 := bf_ BK210.out 2; have hfz5_3 := bf_ BK210.out 3; have hfz5_4 := bf_ BK210.out 4) | ((with_reducible refine gate_builtin (b := .append) (xs := #[.const (.slice none 0 0), .tmp 5]) rfl ?_); at_builtin; refine Kd.R_append_rows (Kd.int .i64) (w0 := w) w.heap.size rfl (.const (.slice none 0 0)) (.tmp 5) 52 3 (.int .i64 0) 8 rfl Tryd.underlying52 info3 rfl (by decide) (by omega) (.slice none 0 0) ([] : List Int) l0_2 _ _ _ (fun _ => True) (fun _ => False) rfl rfl ?aO ?aR (fun _ _ h => h) (fun _ h => h.elim) ?aF ?aB ?aS ?aL ?_; (case aR => repeat (first | exact (Kd.C_below HR0_2.out HB.out) | (with_reducible refine Kd.C_alloc ?_ _) | (with_reducible refine Kd.C_drewN ?_ _) | (with_reducible refine Kd.C_drew ?_))); (case aB => exact (by repeat (first | (with_reducible first | exact HB.out | apply ba_ | apply bn_ | apply bd_ | refine be_ ?_ GE210.out) | exact HB.out))); (case aF => exact (fun _ _ => trivial)); (case aO => exact ((Kd.R_nil _ _ _ _ (fun _ => True)))); (case aS => exact (bs_ (by repeat (first | (with_reducible first | exact HB.out | apply ba_ | apply bn_ | apply bd_ | refine be_ ?_ GE210.out) | exact HB.out)))); (case aL => have := LMc2.out; omega); intro v212 w6 ho hb hg hat; rw [← Ny211.out] at ho; have n0_ := am_ (blk_grown (g := gb210) (o := .cells #[.int .i64 a0_0, .int .u64 a0_1, .slice A0_2 l0_2.length c0_2, .bool a0_3, .int .i64 a0_4] 54 (0, 0)) (by (with_reducible repeat (first | refine bw_ ?_ _ | refine bx_ ?_ | refine bl_ ?_ _)); exact BK210.out) hg (by simp [Value.ownBlock])); have n1_ := am_ (hb); have n2_ := am_ (ho); clear BK210; clear HB; have BK210 := n0_; have HB := n1_; have HO213 := n2_; clear n0_ n1_ n2_; clear ho hb hg hat; have hcz7_0 : w6.cell? ⟨gb210, 0, none⟩ = some (.int .i64 a0_0) := (bc_ BK210.out 0).trans rfl; have hcz7_1 : w6.cell? ⟨gb210, 1, none⟩ = some (.int .u64 a0_1) := (bc_ BK210.out 1).trans rfl; have hcz7_2 : w6.cell? ⟨gb210, 2, none⟩ = some (.slice A0_2 l0_2.length c0_2) := (bc_ BK210.out 2).trans rfl; have hcz7_3 : w6.cell? ⟨gb210, 3, none⟩ = some (.bool a0_3) := (bc_ BK210.out 3).trans rfl; have hcz7_4 : w6.cell? ⟨gb210, 4, none⟩ = some (.int .i64 a0_4) := (bc_ BK210.out 4).trans rfl; have hfz7_0 := bf_ BK210.out 0; have hfz7_1 := bf_ BK210.out 1; have hfz7_2 := bf_ BK210.out 2; have hfz7_3 := bf_ BK210.out 3; have hfz7_4 := bf_ BK210.out 4))
   go_ret
   exact ⟨_, by first | rfl | (simp [errW_none, errW_some] <;> rfl) | (simp [*, errW_none, errW_some] <;> rfl), by (with_reducible repeat (first | apply Kd.R_alloc | apply Kd.R_drewN | apply Kd.R_drew)); exact HO213.out, by repeat (first | (with_reducible first | exact HB.out | apply ba_ | apply bn_ | apply bd_ | refine be_ ?_ GE210.out) | exact HB.out)⟩
  ·rw [if_neg c3] at H
   have c3b0 : (a0_4 == 0) = false := beq_eq_false_iff_ne.mpr c3
   have c3b1 : (a0_4 != 0) = true := bne_iff_ne.mpr c3
   by_cases c8 : y211.length < 17592186044416
   ·rw [if_pos c8] at H
    have LMc8 := am_ c8
    clear c8
    obtain ⟨y214, hy214⟩ : ∃ y_ : List Int, y_ = (y211 ++ [a0_4]) := ⟨_, rfl⟩
    replace H : (some y214) = some r := by first | (rw [hy214]; with_reducible exact H) | (have H2_ := (ob_ _ _).symm.trans H; rw [hy214]; with_reducible exact H2_) | (have H2_ := (ob_ _ _).symm.trans H; with_reducible exact H2_) | with_reducible exact H | (rw [hy214]; exact H) | exact H
    have Ny214 := am_ hy214
    clear hy214
    obtain rfl := Option.some.inj H
    go_enter Tryd.func69, Tryd.ntmps69
    go_wp2_with (first | ((with_reducible refine gate_dst (N := 1) rfl ?_); refine box_event ?hg (N := 1) ?hd (cs := #[.int .i64 a0_0, .int .u64 a0_1, .slice A0_2 l0_2.length c0_2, .bool a0_3, .int .i64 a0_4]) (t := 54) ?hr ?_; (case hd => rfl); (case hg => rfl); (case hr => first | (go_simp; done) | (go_simp; rfl)); intro gb210 hg w9 hbox hb; have n0_ := am_ (bt_ (by repeat (first | (with_reducible first | exact HB.out | apply ba_ | apply bn_ | apply bd_) | exact HB.out)) hb); have n1_ := am_ (hbox); have n2_ := am_ ((by rw [hg]; exact (bs_ (by repeat (first | (with_reducible first | exact HB.out | apply ba_ | apply bn_ | apply bd_) | exact HB.out))) : w.heap.size ≤ gb210)); have n3_ := am_ ((by rw [hg]; exact (bs_ (by repeat (first | (with_reducible first | exact HB.out | apply ba_ | apply bn_ | apply bd_) | exact HB.out))) : w.heap.size ≤ gb210)); clear HB; have HB := n0_; have BK210 := n1_; have GW210 := n2_; have GE210 := n3_; clear n0_ n1_ n2_ n3_; clear hb hbox hg; have hcz10_0 : w9.cell? ⟨gb210, 0, none⟩ = some (.int .i64 a0_0) := (bc_ BK210.out 0).trans rfl; have hcz10_1 : w9.cell? ⟨gb210, 1, none⟩ = some (.int .u64 a0_1) := (bc_ BK210.out 1).trans rfl; have hcz10_2 : w9.cell? ⟨gb210, 2, none⟩ = some (.slice A0_2 l0_2.length c0_2) := (bc_ BK210.out 2).trans rfl; have hcz10_3 : w9.cell? ⟨gb210, 3, none⟩ = some (.bool a0_3) := (bc_ BK210.out 3).trans rfl; have hcz10_4 : w9.cell? ⟨gb210, 4, none⟩ = some (.int .i64 a0_4) := (bc_ BK210.out 4).trans rfl; have hfz10_0 := bf_ BK210.out 0; have hfz10_1 := bf_ BK210.out 1; have hfz10_2 := bf_ BK210.out 2; have hfz10_3 := bf_ BK210.out 3; have hfz10_4 := bf_ BK210.out 4) | ((with_reducible refine gate_builtin (b := .append) (xs := #[.const (.slice none 0 0), .tmp 5]) rfl ?_); at_builtin; refine Kd.R_append_rows (Kd.int .i64) (w0 := w) w.heap.size rfl (.const (.slice none 0 0)) (.tmp 5) 52 3 (.int .i64 0) 8 rfl Tryd.underlying52 info3 rfl (by decide) (by omega) (.slice none 0 0) ([] : List Int) l0_2 _ _ _ (fun _ => True) (fun _ => False) rfl rfl ?aO ?aR (fun _ _ h => h) (fun _ h => h.elim) ?aF ?aB ?aS ?aL ?_; (case aR => repeat (first | exact (Kd.C_below HR0_2.out HB.out) | (with_reducible refine Kd.C_alloc ?_ _) | (with_reducible refine Kd.C_drewN ?_ _) | (with_reducible refine Kd.C_drew ?_))); (case aB => exact (by repeat (first | (with_reducible first | exact HB.out | apply ba_ | apply bn_ | apply bd_ | refine be_ ?_ GE210.out) | exact HB.out))); (case aF => exact (fun _ _ => trivial)); (case aO => exact ((Kd.R_nil _ _ _ _ (fun _ => True)))); (case aS => exact (bs_ (by repeat (first | (with_reducible first | exact HB.out | apply ba_ | apply bn_ | apply bd_ | refine be_ ?_ GE210.out) | exact HB.out)))); (case aL => have := LMc2.out; omega); intro v212 w11 ho hb hg hat; rw [← Ny211.out] at ho; have n0_ := am_ (blk_grown (g := gb210) (o := .cells #[.int .i64 a0_0, .int .u64 a0_1, .slice A0_2 l0_2.length c0_2, .bool a0_3, .int .i64 a0_4] 54 (0, 0)) (by (with_reducible repeat (first | refine bw_ ?_ _ | refine bx_ ?_ | refine bl_ ?_ _)); exact BK210.out) hg (by simp [Value.ownBlock])); have n1_ := am_ (hb); have n2_ := am_ (ho); clear BK210; clear HB; have BK210 := n0_; have HB := n1_; have HO213 := n2_; clear n0_ n1_ n2_; clear ho hb hg hat; have hcz12_0 : w11.cell? ⟨gb210, 0, none⟩ = some (.int .i64 a0_0) := (bc_ BK210.out 0).trans rfl; have hcz12_1 : w11.cell? ⟨gb210, 1, none⟩ = some (.int .u64 a0_1) := (bc_ BK210.out 1).trans rfl; have hcz12_2 : w11.cell? ⟨gb210, 2, none⟩ = some (.slice A0_2 l0_2.length c0_2) := (bc_ BK210.out 2).trans rfl; have hcz12_3 : w11.cell? ⟨gb210, 3, none⟩ = some (.bool a0_3) := (bc_ BK210.out 3).trans rfl; have hcz12_4 : w11.cell? ⟨gb210, 4, none⟩ = some (.int .i64 a0_4) := (bc_ BK210.out 4).trans rfl; have hfz12_0 := bf_ BK210.out 0; have hfz12_1 := bf_ BK210.out 1; have hfz12_2 := bf_ BK210.out 2; have hfz12_3 := bf_ BK210.out 3; have hfz12_4 := bf_ BK210.out 4) | ((with_reducible refine gate_builtin (b := .append) (xs := #[.tmp 10, .tmp 13]) rfl ?_); at_builtin; refine Kd.R_append (Kd.int .i64) (w0 := w) w.heap.size rfl (.tmp 10) (.tmp 13) 52 3 (.int .i64 0) 8 rfl Tryd.underlying52 info3 rfl (by decide) (by omega) v212 y211 a0_4 [.int .i64 a0_4] (fun _ => True) (fun _ => False) rfl rfl ?aP (fun _ hk => hk.elim) ?aF ?aO ?aB ?aS ?aL ?_; (case aP => exact rfl); (case aB => exact (by repeat (first | (with_reducible first | exact HB.out | apply ba_ | apply bn_ | apply bd_ | refine be_ ?_ GE210.out) | exact HB.out))); (case aF => exact (fun _ _ => trivial)); (case aO => exact (by (with_reducible repeat (first | apply Kd.R_alloc | apply Kd.R_drewN | apply Kd.R_drew)); exact HO213.out)); (case aS => exact (bs_ (by repeat (first | (with_reducible first | exact HB.out | apply ba_ | apply bn_ | apply bd_ | refine be_ ?_ GE210.out) | exact HB.out)))); (case aL => have := LMc8.out; omega); intro v215 w13 ho hb hg hat; rw [← Ny214.out] at ho; have n0_ := am_ (blk_grown (g := gb210) (o := .cells #[.int .i64 a0_0, .int .u64 a0_1, .slice A0_2 l0_2.length c0_2, .bool a0_3, .int .i64 a0_4] 54 (0, 0)) (by (with_reducible repeat (first | refine bw_ ?_ _ | refine bx_ ?_ | refine bl_ ?_ _)); exact BK210.out) hg (Kd.R_ne HO213.out BK210.out (by decide))); have n1_ := am_ (hb); have n2_ := am_ (ho); clear BK210; clear HB; clear HO213; have BK210 := n0_; have HB := n1_; have HO216 := n2_; clear n0_ n1_ n2_; clear ho hb hg hat))
    go_ret
    exact ⟨_, by first | rfl | (simp [errW_none, errW_some] <;> rfl) | (simp [*, errW_none, errW_some] <;> rfl), by (with_reducible repeat (first | apply Kd.R_alloc | apply Kd.R_drewN | apply Kd.R_drew)); exact HO216.out, by repeat (first | (with_reducible first | exact HB.out | apply ba_ | apply bn_ | apply bd_ | refine be_ ?_ GE210.out) | exact HB.out)⟩
   ·rw [if_neg c8] at H
    exact absurd H (by simp)
 ·rw [if_neg c2] at H
  exact absurd H (by simp)
end Go.Proofs.YtlpkandfmbnlnaaDoor.Q
end
