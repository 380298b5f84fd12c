/- LatchSets: whatever is called, a latch has the first value that it was set to: for every list of calls, nil and empty too (the law looks at the first forty). No condition. -/
import Derived.Test.YtnllcbphfpfniaaSetsWalk
import Derived.Test.YtnllcbphfpfniaaLone
import Derived.Deep.Slices
import Derived.Deep.Fields
import Derived.ChangeSame
import Derived.WalkKit
import Derived.ProofKit
import Derived.OpenShut
import Derived.SizedLaws
import Derived.Carry
set_option linter.unusedVariables false
namespace Go.Proofs.Ytnllcbphfpfniaa.latchSets
open Go.ChangeShapes Go.WideShapes Go.ChangeAt Go.RowKit Go.Deep
open Go.Proofs.Ytnllcbphfpfniaa.Blk

/-- An argument that is a slice of structs, each field one cell: where its elements' fields lie, and that each reads by its own type. -/
theorem fields_at {H : Type} {enc : TypeId × Value → H} {P : Program} {w : World} {base : Nat} {spare : Nat → Bool} {held : Bool} {t e : TypeId} {fs : Array Field} {a0 : Option Addr} {len cap : Nat} {d : DataW H} {p : List MemPlace}
    (ht : P.underlying t = some (.slice e)) (he : P.underlying e = some (.struct fs)) (hone : oneCellFields P fs = true) (hC : P.cellsOf e = fs.size) (h0 : 0 < fs.size) (hl : 0 < len)
    (h : DataW.Trod enc P w base spare held t (.slice a0 len cap) d p) :
    ∃ b off : Nat, a0 = some ⟨b, off, none⟩ ∧ ∀ i, i < len → ∃ n, ∀ (j : Nat) (f : Field), fs[j]? = some f → ∃ v y, w.cell? ⟨b, off + (i * fs.size + j), none⟩ = some v ∧ DataW.trod enc P w base spare held n f.type [v] = some y := by
  obtain ⟨fuel, hf⟩ := h
  rcases open_slice ht hf with ⟨hcs, _⟩ | ⟨a, l, c, m, n, D, Pl, hcs, _, hlc, _, hm, _, hel⟩
  · simp [Value.cells] at hcs
    omega
  · simp [Value.cells] at hcs
    obtain ⟨rfl, rfl, rfl⟩ := hcs
    have hlm : len ≤ m := by rw [hm]; split <;> omega
    have one : ∀ i, i < len → ∃ n, ∀ (j : Nat) (f : Field), fs[j]? = some f → ∃ v y, w.cell? (a.add (i * fs.size + j)) = some v ∧ DataW.trod enc P w base spare held n f.type [v] = some y := by
      intro i hi
      obtain ⟨cs, hc, hr⟩ := hel i (by omega)
      rw [hC] at hc
      obtain ⟨ys, k, _, _, hlen, hyl, hfl⟩ := DataW.trod_struct he hr
      obtain ⟨_, hcl, hat⟩ := World.cells?_some hc
      refine ⟨k, fun j f hj => ?_⟩
      have hjs : j < fs.size := (Array.getElem?_eq_some_iff.1 hj).1
      obtain ⟨ho, hk⟩ := hone_of hone j f hj
      have hcell := hat j hjs
      have h1 := hfl j f hj
      rw [ho, hk, List.drop_eq_getElem_cons (show j < cs.length by omega), List.take_succ_cons, List.take_zero, List.getElem?_eq_getElem (show j < ys.length by omega)] at h1
      refine ⟨cs[j]'(by omega), ys[j]'(by omega), ?_, h1⟩
      rw [← Go.Deep.add_add, hcell, List.getElem?_eq_getElem (show j < cs.length by omega)]
    have hpl : a.spot = none := by
      obtain ⟨k, hk⟩ := one 0 hl
      obtain ⟨v, _, hv, _⟩ := hk 0 fs[0] (Array.getElem?_eq_getElem h0)
      rw [Nat.zero_mul, Nat.zero_add, Addr.add_zero'] at hv
      unfold World.cell? at hv
      cases hs : a.spot with
      | none => rfl
      | some x =>
        rw [hs] at hv
        revert hv
        split <;> simp
    obtain ⟨b, off, spot⟩ := a
    subst hpl
    refine ⟨b, off, rfl, fun i hi => ?_⟩
    obtain ⟨k, hk⟩ := one i hi
    refine ⟨k, fun j f hj => ?_⟩
    have := hk j f hj
    rwa [Addr.add_lit] at this

set_option maxRecDepth 100000 in
set_option maxHeartbeats 800000 in
/-- No calls. -/
theorem sets_empty (A : Option Addr) (cap : Nat) (w : World) : Calls Try.prog 3 #[.slice A 0 cap] w fun e w' => e = .returned (.bool true) ∧ w.grownBy w' none := by
  have HAW := Lib.hid Awake.awake_any
  go_enter Try.func3, Try.ntmps3
  go_wp2_with fail
  refine (La64.new_any w).mono ?_
  rintro e w1 ⟨rfl, rfl⟩
  go_wp2_with fail
  have G := Lib.hid (grown_trans (grown_alloc w (.cells #[.int .u32 0, .int .i32 0, .int .u32 0, .int .u32 0, .int .u64 0] 64) none) (grown_alloc _ (.cells #[.int .u64 0, .bool false] 27) none))
  refine wp_loop_rounds 1 ?_
  rw [rounds_succ]
  go_wp2_with fail
  refine (HAW.out _).mono ?_
  rintro e w' ⟨rfl, g2⟩
  have G2 := Lib.hid g2
  clear g2
  go_wp2_with fail
  go_ret
  exact ⟨rfl, grown_trans G.out G2.out⟩

theorem walk {H : Type} {enc : TypeId × Value → H} {W : World} {base : Nat} {a0 : Option Addr} {len cap : Nat} {d : DataW H} {p : List MemPlace} (h : DataW.Trod enc Try.prog W base (fun _ => true) true 22 (.slice a0 len cap) d p)
    (hr : len ≤ 140737488351232) : Calls Try.prog 3 #[.slice a0 len cap] W fun e w' => e = .returned (.bool true) ∧ Below W.heap.size W w' := by
  have fin : ∀ (e : Ending) (w' : World), (e = .returned (.bool true) ∧ W.grownBy w' none) → e = .returned (.bool true) ∧ Below W.heap.size W w' := fun e w' ⟨h1, h2⟩ => ⟨h1, below_of_grown h2 (Nat.le_refl _) (by simp)⟩
  by_cases h0 : len = 0
  · subst h0
    exact (sets_empty a0 cap W).mono fun e w' h => fin e w' h
  · obtain ⟨b, off, rfl, hat⟩ := fields_at Try.underlying22 Try.underlying29 (by kernel_rfl) (by kernel_rfl) (by decide) (by omega) h
    have hex : ∀ i, i < len → ∃ z : Int × Int, W.cell? ⟨b, off + i * 2, none⟩ = some (.int .i64 z.1) ∧ W.cell? ⟨b, off + i * 2 + 1, none⟩ = some (.int .u64 z.2) := by
      intro i hi
      obtain ⟨n, hn⟩ := hat i hi
      obtain ⟨v0, y0, c0, t0⟩ := hn 0 _ rfl
      obtain ⟨v1, y1, c1, t1⟩ := hn 1 _ rfl
      obtain ⟨x0, e0, _, _⟩ := DataW.trod_int Try.underlying3 t0
      obtain ⟨x1, e1, _, _⟩ := DataW.trod_int Try.underlying25 t1
      simp at e0 e1
      subst e0
      subst e1
      exact ⟨(x0, x1), c0, c1⟩
    have hch : ∀ n, n ≤ len → ∃ zs : List (Int × Int), zs.length = n ∧ ∀ i, i < n → W.cell? ⟨b, off + i * 2, none⟩ = some (.int .i64 (zs.getD i (0, 0)).1) ∧ W.cell? ⟨b, off + i * 2 + 1, none⟩ = some (.int .u64 (zs.getD i (0, 0)).2) := by
      intro n
      induction n with
      | zero => exact fun _ => ⟨[], rfl, fun i hi => by omega⟩
      | succ n ih =>
        intro hn
        obtain ⟨zs, e, g⟩ := ih (by omega)
        obtain ⟨z, hz⟩ := hex n (by omega)
        refine ⟨zs ++ [z], by simp [e], fun i hi => ?_⟩
        by_cases c : i < n
        · have e2 : (zs ++ [z]).getD i (0, 0) = zs.getD i (0, 0) := by simp [List.getD, List.getElem?_append_left (show i < zs.length by omega)]
          rw [e2]
          exact g i c
        · have : i = n := by omega
          subst this
          have e2 : (zs ++ [z]).getD i (0, 0) = z := by simp [List.getD, ← e]
          rw [e2]
          exact hz
    obtain ⟨zs, hlen, hcells⟩ := hch len (Nat.le_refl _)
    have := Sets.sets_any b off cap zs W (by omega) (fun i hi => hcells i (by omega))
    rw [hlen] at this
    exact this.mono fun e w' h => fin e w' h

theorem laidOut : laidOutB Try.prog = true := by kernel_rfl
theorem own : ownKnob Try.prog.godebug = none := by kernel_rfl

set_option maxRecDepth 100000 in
theorem handed (os : Os) (started : os.Started) (H : Type) (enc : TypeId × Value → H) :
    ReturnsInHanded { calm := true } Try.checked os 3 .any (Rows.latchSetsSpec.pre6 enc Try.prog Try.f3 Rows.latchSetsRow.domain false) (Rows.latchSetsSpec.post enc Try.prog Try.f3 false true false false) := by
  refine returnsInHanded_of_change_sized (C := Try.checked) own started (by kernel_rfl) Try.func3
    (ChangeSpec.witness6c (enc := enc) (C := Try.checked) ⟨#[], #[.slice none 0 0], []⟩ 8 (by kernel_rfl) (by kernel_rfl) (by kernel_rfl) (by kernel_rfl)) ?_
  intro W base args ds gs before hval0 hW hcnd hsz0 _
  have hsz : (DataW.weightsEach Try.prog (Try.f3.params.toList ++ Rows.latchSetsSpec.plain.varTypes Try.prog) (ds ++ gs)).all (· ≤ reachBytes) = true := hsz0
  have hval : ∀ (j : Nat) t v, Try.f3.params[j]? = some t → args[j]? = some v → Value.okWide Try.prog W .any base t v := hval0
  have hW' := hW
  obtain ⟨p, q, hA0, hV, rfl, hfz, hnd⟩ := hW
  have hA : DataW.TrodAll enc Try.prog W 0 (fun _ => true) true Try.f3.params.toList args.toList ds p := hA0
  rw [Try.params3] at hA hval hsz
  obtain ⟨v0, vs0, d0, ds0, p0, q0, hargs, rfl, rfl, h0, r0⟩ := trodAll_cons hA
  obtain ⟨rfl, rfl, rfl⟩ := trodAll_nil r0
  obtain rfl : args = #[v0] := by cases args; simp_all
  obtain ⟨rfl, rfl⟩ := trodVars_none hV
  obtain ⟨a0, len, cap, rfl⟩ := okWide_slice Try.underlying22 (hval 0 22 v0 rfl rfl)
  have k0 := h0
  have lt0 : ∀ x ∈ p0, x.block < W.heap.size := by obtain ⟨m, hm⟩ := k0; exact DataW.trod_lt m _ _ _ hm
  have hlen : len ≤ 140737488351232 := by
    obtain ⟨fuel, hf⟩ := h0
    rcases open_slice Try.underlying22 hf with ⟨hcs, _⟩ | ⟨a, l, c, m, n, D, Pl, hcs, hb, hl, hm, hmm, hx, hi⟩
    · simp [Value.cells] at hcs
      omega
    · simp [Value.cells] at hcs
      obtain ⟨rfl, rfl, rfl⟩ := hcs
      simp only [Prod.mk.injEq] at hx
      have hd := hx.1
      subst hd
      have hs := sized_slice hsz (j := 0) (t := 22) (e := 29) rfl rfl Try.underlying22
      have hb : Try.prog.bytesOf 29 = 16 := by kernel_rfl
      rw [hb] at hs
      simp only [List.length_map, List.length_range, reachBytes] at hs
      omega
  clear hA0 hval0 hsz0 hsz
  refine (walk h0 hlen).mono fun e W' ⟨he, bel⟩ => ?_
  subst he
  exact ⟨_, rfl, _, _, _, [], _, [], hW', trodAll_mk1 (shut_bool Try.underlying4 _), (trodAll_cons_mk (Below.trod laidOut (by kernel_rfl) (of_decide_eq_true (by kernel_rfl)) k0 bel lt0) trodAll_mk0), rfl, bel.frame _, fun h => by cases h⟩

theorem over : Rows.latchSetsRow.holds Try.pinned (OpenSpec.ofChange Rows.latchSetsSpec) :=
  OpenClaim.holds_of_wide_leaving_time 3 Try.f3 rfl rfl rfl rfl rfl rfl rfl ⟨rfl, rfl, rfl, rfl, rfl⟩ rfl rfl rfl rfl rfl (by kernel_rfl) Try.func3 (by kernel_rfl)
    (of_decide_eq_true (by kernel_rfl)) (by unfold Func.isWrapper; first | (rw [if_pos (by decide +kernel)]; kernel_rfl) | (rw [if_neg (by decide +kernel)]; exact ⟨rfl, rfl⟩))
    (fun os started H enc _ F => Lone.leaving_of_handed (fun w args v w' h => Lone.timed w args v w' h) (handed os started H enc))
theorem proved : Rows.LatchSetsSaid := over
#print axioms proved
end Go.Proofs.Ytnllcbphfpfniaa.latchSets
namespace Go.Proofs.Ytnllcbphfpfniaa
/-- The statement, under a short name. -/
theorem latchSets_holds : Rows.LatchSetsSaid := latchSets.proved
end Go.Proofs.Ytnllcbphfpfniaa
