/- What the proof of the claim leans on, of these texts: GDo, Q4, Q14; only what is used. -/
import Derived.Deep.RegionWith
import Derived.Handy
import Derived.Laws.StructEq
import Derived.Lib.Hide
import Derived.Lib.SmallJoins
import Derived.LoopTactic
import Derived.RegionCalls
import Derived.RegionTactic
import Derived.WalkKit
import Derived.Test.YtlpkandfmbnlnaaDoorK1
import Derived.Test.YtlpkandfmbnlnaaDoorK2
import Derived.Test.YtlpkandfmbnlnaaDoorK3
import Derived.Test.YtlpkandfmbnlnaaDoorK4
import Derived.Test.YtlpkandfmbnlnaaDoorK5
import Derived.Test.YtlpkandfmbnlnaaDoorK6
import Derived.Test.YtlpkandfmbnlnaaDoorK7
import Derived.Test.YtlpkandfmbnlnaaDoorK8
namespace Go.Proofs.YtlpkandfmbnlnaaDoor
end Go.Proofs.YtlpkandfmbnlnaaDoor
namespace Go.Proofs.YtlpkandfmbnlnaaDoor.Cmd
end Go.Proofs.YtlpkandfmbnlnaaDoor.Cmd
namespace Go.Proofs.YtlpkandfmbnlnaaDoor.Fix
end Go.Proofs.YtlpkandfmbnlnaaDoor.Fix
namespace Go.Proofs.YtlpkandfmbnlnaaDoor.Laid
end Go.Proofs.YtlpkandfmbnlnaaDoor.Laid
namespace Go.Proofs.YtlpkandfmbnlnaaDoor.Mem
end Go.Proofs.YtlpkandfmbnlnaaDoor.Mem
namespace Go.Proofs.YtlpkandfmbnlnaaDoor.Num
end Go.Proofs.YtlpkandfmbnlnaaDoor.Num
namespace Go.Proofs.YtlpkandfmbnlnaaDoor.Opn
end Go.Proofs.YtlpkandfmbnlnaaDoor.Opn
namespace Go.Proofs.YtlpkandfmbnlnaaDoor.Q
end Go.Proofs.YtlpkandfmbnlnaaDoor.Q
namespace Go.Proofs.YtlpkandfmbnlnaaDoor.R
end Go.Proofs.YtlpkandfmbnlnaaDoor.R
namespace Go.Proofs.YtlpkandfmbnlnaaDoor.Ref
end Go.Proofs.YtlpkandfmbnlnaaDoor.Ref
namespace Go.Proofs.YtlpkandfmbnlnaaDoor.Str
end Go.Proofs.YtlpkandfmbnlnaaDoor.Str
namespace Go.Proofs.YtlpkandfmbnlnaaDoor.Txt
end Go.Proofs.YtlpkandfmbnlnaaDoor.Txt
namespace Go.Proofs.YtlpkandfmbnlnaaDoor.confDoes
end Go.Proofs.YtlpkandfmbnlnaaDoor.confDoes
namespace Go.Proofs.YtlpkandfmbnlnaaDoorW.PrintLast
end Go.Proofs.YtlpkandfmbnlnaaDoorW.PrintLast
namespace Go.Proofs.YtlpkandfmbnlnaaDoorW.PrintMore
end Go.Proofs.YtlpkandfmbnlnaaDoorW.PrintMore
namespace Go.Proofs.YtlpkandfmbnlnaaDoorW.PrintWords
end Go.Proofs.YtlpkandfmbnlnaaDoorW.PrintWords
section
namespace Go.Proofs.YtlpkandfmbnlnaaDoor.Q
open Go.RowKit Go.Proofs.YtlpkandfmbnlnaaDoor.Q Go.Proofs.YtlpkandfmbnlnaaDoorW.PrintWords Go.Proofs.YtlpkandfmbnlnaaDoorW.PrintLast Go.Proofs.YtlpkandfmbnlnaaDoorW.PrintMore
open Go.Proofs.YtlpkandfmbnlnaaDoor.R
set_option linter.unusedVariables false
set_option linter.unusedSimpArgs false
set_option maxRecDepth 100000
def ruleDo (kind : Int) (x : S54) (n : Int) : Option S54 :=
 if kind = 1 then (if x.f4 = n then some ⟨x.f0, x.f1, x.f2, x.f3, 0⟩ else (conf_last.f x.f0 x.f1 x.f2 x.f3 x.f4).bind fun z => some ⟨x.f0, x.f1, x.f2.filter (fun y => !(y == n)), x.f3 && (z != n), x.f4⟩)
 else if kind = 2 then some ⟨x.f0, x.f1, x.f2, x.f3, n⟩
 else if kind = 3 then (if x.f2.length ≤ 1000000 then some ⟨x.f0, x.f1, x.f2 ++ [n], true, 0⟩ else none)
 else some ⟨x.f0, x.f1, x.f2, false, x.f4⟩
theorem last_pos {a0 a1 : Int} {xs : List Int} {a3 : Bool} {a4 z : Int} (h : conf_last.f a0 a1 xs a3 a4 = some z) : 0 < xs.length := by
 cases xs with
 | nil =>
  unfold conf_last.f at h
  rw [if_neg (by unfold wrap64; simp)] at h
  cases h
 | cons x r => simp
theorem rule_do (kind : Int) (hk : 1 ≤ kind ∧ kind ≤ 4) (y x : S54) (A2 : Option Addr) (c2 : Nat) (n : Int) (he : ruleDo kind y n = some x) :
  ∃ F G : Nat, (∀ args w, (callFunc G args).run Tryd.prog w = .ok (.enter G args) w) ∧ (∀ W, Calls Tryd.prog 63 #[.int .i64 kind] W fun e w' => e = .returned (.agg #[.func (.func F) #[] #[], .func (.func G) #[] #[]]) ∧ Below W.heap.size W w') ∧
   ∀ W base ok, Kd.R (Kd.int .i64) 3 W base ok (.slice A2 y.f2.length c2) y.f2 → base ≤ W.heap.size → Calls Tryd.prog G #[.agg #[.int .i64 y.f0, .int .u64 y.f1, .slice A2 y.f2.length c2, .bool y.f3, .int .i64 y.f4], .int .i64 n] W (Made W base (.slice A2 y.f2.length c2) x.f0 x.f1 x.f2 x.f3 x.f4) := by
 obtain ⟨h1, h4⟩ := hk
 unfold ruleDo at he
 obtain rfl | rfl | rfl | rfl : kind = 1 ∨ kind = 2 ∨ kind = 3 ∨ kind = 4 := by omega
 ·refine ⟨94, 95, enters_of Tryd.func95 (by kernel_rfl) rfl, of_1, fun W base ok hR hb => ?_⟩
  rw [if_pos rfl] at he
  by_cases hn : y.f4 = n
  ·rw [if_pos hn] at he
   obtain rfl := Option.some.inj he
   subst hn
   exact rule_1a _ _ _ _ _ _ _ _ ok _ hR
  ·rw [if_neg hn] at he
   obtain ⟨z, hz, he⟩ := Option.bind_eq_some_iff.1 he
   obtain rfl := Option.some.inj he
   obtain ⟨g, cap, hv, _⟩ := Kd.R_form hR (last_pos hz)
   injection hv with hv1 _ hv2
   subst hv1
   exact rule_1b _ _ _ _ _ _ _ _ _ _ ok _ hR hn hz
 ·refine ⟨96, 97, enters_of Tryd.func97 (by kernel_rfl) rfl, of_2, fun W base ok hR hb => ?_⟩
  obtain rfl := Option.some.inj he
  exact rule_2 _ _ _ _ _ _ _ _ _ ok _ hR
 ·refine ⟨98, 99, enters_of Tryd.func99 (by kernel_rfl) rfl, of_3, fun W base ok hR hb => ?_⟩
  rw [if_neg (by decide), if_neg (by decide), if_pos rfl] at he
  by_cases hl : y.f2.length ≤ 1000000
  ·rw [if_pos hl] at he
   obtain rfl := Option.some.inj he
   exact rule_3 _ _ _ _ _ _ _ _ _ ok _ hR hb hl
  ·rw [if_neg hl] at he
   cases he
 ·refine ⟨100, 101, enters_of Tryd.func101 (by kernel_rfl) rfl, of_4, fun W base ok hR hb => ?_⟩
  obtain rfl := Option.some.inj he
  exact rule_4 _ _ _ _ _ _ _ _ _ ok _ hR
def conf_Do.f (k : Nat) (l0 : List S54) (a1_0 : Int) (a1_1 : Int) (a1_2 : Int) (a1_3 : Int) : Option (List S54 × Bool) :=
 (conf_Copy.f k l0).bind fun out => (conf_Can.f k l0 a1_0 a1_1 a1_2 a1_3).bind fun e => if e ≠ 0 then some (out, false) else if a1_0 = 0 then some (out, true) else
  if (1 ≤ a1_0 ∧ a1_0 ≤ 4) ∧ 0 ≤ a1_1 ∧ a1_1 < (out.length : Int) then (ruleDo a1_0 (rd_T54 out a1_1) a1_3).bind fun x => some (out.set a1_1.toNat ⟨x.f0, IntKind.u64.wrap (x.f1 + 1), x.f2, x.f3, x.f4⟩, true) else none
theorem skip_step {P : Program} {ops : Array Oper} {o : Oper} {a : Act} {Q : Exit → Act → World → Prop} {Kc : Act → World → Prop} {W w1 : World} (hw : Region.wanted o (yielded ops a.tmps) = true) (hN : o.dst = none) (hrun : (execOp a.eval o).run P W = .ok .skip w1) (h : Kc a w1) : if Region.wanted o (yielded ops a.tmps) = true then Oper.wp P o a W Kc Q else Kc (a.put none undef) W := by
 rw [if_pos hw]
 unfold Oper.wp
 rw [hrun]
 show Kc (a.put o.dst undef) w1
 rw [hN]
 exact h
set_option maxHeartbeats 40000000 in
theorem conf_Do.calls (k : Nat) (A0 : Option Addr) (c0 : Nat) (l0 : List (S54)) (a1_0 : Int) (a1_1 : Int) (a1_2 : Int) (a1_3 : Int) (r1 : List S54) (r2 : Bool) (w : World) (hr0 : Kd.C k54 w A0 l0.length l0) (hc0 : l0.length ≤ c0) (h : conf_Do.f k l0 a1_0 a1_1 a1_2 a1_3 = some (r1, r2)) :
  Calls Tryd.prog 28 #[.slice A0 l0.length c0, .agg #[.int .i64 a1_0, .int .i64 a1_1, .int .u64 a1_2, .int .i64 a1_3]] w fun e w' => ∃ v0_ : Value, e = .returned (.tuple #[v0_, .bool r2]) ∧ Kd.S k54 54 w' w.heap.size (fun _ => True) v0_ r1 ∧ Below w.heap.size w w' := by
 unfold conf_Do.f at h
 obtain ⟨out, hout, h1⟩ := Option.bind_eq_some_iff.1 h
 obtain ⟨e, he, h2⟩ := Option.bind_eq_some_iff.1 h1
 have hlen := hr0.2.1
 have hfd : ∀ (W : World) (f g : Fn), (Instr.field 92 (.agg #[.func f #[] #[], .func g #[] #[]]) 1).run Tryd.prog W = .ok (.func g #[] #[]) W := fun _ _ _ => rfl
 have hb0 : Below w.heap.size w (w.alloc (.cells #[.int .i64 a1_0, .int .i64 a1_1, .int .u64 a1_2, .int .i64 a1_3] 24)) := by go_grown
 have HB0 := Lib.hid hb0
 have HCo := Lib.hid (conf_Copy.calls k A0 c0 l0 out (w.alloc (.cells #[.int .i64 a1_0, .int .i64 a1_1, .int .u64 a1_2, .int .i64 a1_3] 24)) (Kd.C_below hr0 hb0) hc0 hout)
 have HCa := Lib.hid (fun W (hW : Below w.heap.size w W) => conf_Can.calls k A0 c0 l0 a1_0 a1_1 a1_2 a1_3 e W (Kd.C_below hr0 hW) hc0 he)
 have u0 : (w.alloc (.cells #[.int .i64 a1_0, .int .i64 a1_1, .int .u64 a1_2, .int .i64 a1_3] 24)).cell? ⟨w.heap.size, 0, none⟩ = some (.int .i64 a1_0) := by go_simp
 have u1 : (w.alloc (.cells #[.int .i64 a1_0, .int .i64 a1_1, .int .u64 a1_2, .int .i64 a1_3] 24)).cell? ⟨w.heap.size, 1, none⟩ = some (.int .i64 a1_1) := by go_simp
 have u2 : (w.alloc (.cells #[.int .i64 a1_0, .int .i64 a1_1, .int .u64 a1_2, .int .i64 a1_3] 24)).cell? ⟨w.heap.size, 2, none⟩ = some (.int .u64 a1_2) := by go_simp
 have u3 : (w.alloc (.cells #[.int .i64 a1_0, .int .i64 a1_1, .int .u64 a1_2, .int .i64 a1_3] 24)).cell? ⟨w.heap.size, 3, none⟩ = some (.int .i64 a1_3) := by go_simp
 have HU : Hid (∀ W, Below (w.heap.size + 1) (w.alloc (.cells #[.int .i64 a1_0, .int .i64 a1_1, .int .u64 a1_2, .int .i64 a1_3] 24)) W → W.cell? ⟨w.heap.size, 0, none⟩ = some (.int .i64 a1_0) ∧ W.cell? ⟨w.heap.size, 1, none⟩ = some (.int .i64 a1_1) ∧ W.cell? ⟨w.heap.size, 2, none⟩ = some (.int .u64 a1_2) ∧ W.cell? ⟨w.heap.size, 3, none⟩ = some (.int .i64 a1_3)) := Lib.hid (fun W hW => ⟨(hW.cell (p := ⟨w.heap.size, 0, none⟩) (by simp)).trans u0, (hW.cell (p := ⟨w.heap.size, 1, none⟩) (by simp)).trans u1, (hW.cell (p := ⟨w.heap.size, 2, none⟩) (by simp)).trans u2, (hW.cell (p := ⟨w.heap.size, 3, none⟩) (by simp)).trans u3⟩)
 have H2 := Lib.hid h2
 clear h h1 h2 hout he hb0 hr0 hc0 u0 u1 u2 u3
 go_enter Tryd.func28, Tryd.ntmps28
 go_wp2_with fail
 refine HCo.out.mono ?_
 rintro e1 w1 ⟨v0, rfl, hS, g1⟩
 have HB1 := Lib.hid (HB0.out.trans (g1.mono HB0.out.size))
 have HX1 : Hid (Below (w.heap.size + 1) (w.alloc (.cells #[.int .i64 a1_0, .int .i64 a1_1, .int .u64 a1_2, .int .i64 a1_3] 24)) w1) := Lib.hid (by have := g1; simpa using this)
 have HS1 := Lib.hid (show Kd.S k54 54 w1 (w.heap.size + 1) (fun _ => True) v0 out by simpa using hS)
 obtain ⟨d0, d1, d2, d3⟩ := HU.out w1 HX1.out
 clear g1 HCo hS
 go_wp2_with fail
 refine (HCa.out w1 HB1.out).mono ?_
 rintro e2 w2 ⟨rfl, g1⟩
 have HB2 := Lib.hid (HB1.out.trans (g1.mono HB1.out.size))
 have HX2 := Lib.hid (HX1.out.trans (g1.mono (by have := HX1.out.size; simpa using this)))
 have HS2 := Lib.hid (Kd.S_below HS1.out g1)
 clear d0 d1 d2 d3
 obtain ⟨d0, d1, d2, d3⟩ := HU.out w2 HX2.out
 clear g1 HCa HS1 HX1 HB1
 by_cases he0 : e = 0
 ·subst he0
  have h3 := H2.out
  simp only [ne_eq, not_true_eq_false, if_false] at h3
  by_cases hk0 : a1_0 = 0
  ·rw [if_pos hk0] at h3
   obtain ⟨rfl, rfl⟩ := Prod.mk.inj (Option.some.inj h3)
   subst hk0
   clear h3 H2
   go_wp2_with fail
   go_returns
   exact ⟨_, rfl, Kd.S_lower HS2.out (Nat.le_succ _), HB2.out⟩
  ·rw [if_neg hk0] at h3
   by_cases hg : (1 ≤ a1_0 ∧ a1_0 ≤ 4) ∧ 0 ≤ a1_1 ∧ a1_1 < (out.length : Int)
   ·rw [if_pos hg] at h3
    obtain ⟨hkind, hi0, hi1⟩ := hg
    obtain ⟨x, hx, h4⟩ := Option.bind_eq_some_iff.1 h3
    obtain ⟨rfl, rfl⟩ := Prod.mk.inj (Option.some.inj h4)
    have b0 : (a1_0 != 0) = true := by simp [hk0]
    clear h3 H2 h4
    obtain ⟨g, co, rfl, gb, gl, _⟩ := Kd.S_form HS2.out (by omega)
    obtain ⟨oki, ce, hcl, hM, hcc, hfr, hoki, hH⟩ := Kd.S_elem HS2.out z54 a1_1 hi0 hi1
    change k54.M w2 (w.heap.size + 1) oki (rd_T54 out a1_1) ce at hM
    generalize rd_T54 out a1_1 = y at hM hx
    obtain ⟨v2, rfl, ge⟩ := k54_openM hM
    obtain ⟨A2, c2, rfl⟩ := Kd.R_slice ge
    obtain ⟨F, G, eg, hof, hdo⟩ := rule_do a1_0 hkind y x A2 c2 a1_3 hx
    have HOF := Lib.hid hof
    have HDO := Lib.hid hdo
    have HR2 := Lib.hid (Kd.R_tight rfl ge)
    have x0 : w2.cell? ⟨g, a1_1.toNat * 5, none⟩ = some (.int .i64 y.f0) := hcc 0 _ rfl
    have x1 : w2.cell? ⟨g, a1_1.toNat * 5 + 1, none⟩ = some (.int .u64 y.f1) := hcc 1 _ rfl
    have x2 : w2.cell? ⟨g, a1_1.toNat * 5 + 2, none⟩ = some (.slice A2 y.f2.length c2) := hcc 2 _ rfl
    have x3 : w2.cell? ⟨g, a1_1.toNat * 5 + 3, none⟩ = some (.bool y.f3) := hcc 3 _ rfl
    have x4 : w2.cell? ⟨g, a1_1.toNat * 5 + 4, none⟩ = some (.int .i64 y.f4) := hcc 4 _ rfl
    have hoi := ge.1
    have HLT := Lib.hid (Kd.R_lt HR2.out)
    have HGE := Lib.hid (Kd.R_base HR2.out)
    have HNG := Lib.hid (fun k (hk : (Value.slice A2 y.f2.length c2).ownBlock = some k) => (hoki k (hoi k hk)).2)
    have HOI := Lib.hid hoi
    have HH2 := Lib.hid (Kd.H_widen hH)
    have HG := Lib.hid gb
    have HG2 := Lib.hid gl
    clear gl
    have HI0 := Lib.hid hi0
    have HI1 := Lib.hid hi1
    have p9 := eq_true hi0
    have q9 := eq_true hi1
    have HSZ : Hid (w.heap.size + 1 ≤ w2.heap.size) := Lib.hid (by have := HX2.out.size; simpa using this)
    have HS : Hid (∀ W W' : World, (W.cell? ⟨g, a1_1.toNat * 5, none⟩ = some (.int .i64 y.f0) ∧ W.cell? ⟨g, a1_1.toNat * 5 + 1, none⟩ = some (.int .u64 y.f1) ∧ W.cell? ⟨g, a1_1.toNat * 5 + 2, none⟩ = some (.slice A2 y.f2.length c2) ∧ W.cell? ⟨g, a1_1.toNat * 5 + 3, none⟩ = some (.bool y.f3) ∧ W.cell? ⟨g, a1_1.toNat * 5 + 4, none⟩ = some (.int .i64 y.f4) ∧ W.cell? ⟨w.heap.size, 0, none⟩ = some (.int .i64 a1_0) ∧ W.cell? ⟨w.heap.size, 1, none⟩ = some (.int .i64 a1_1) ∧ W.cell? ⟨w.heap.size, 2, none⟩ = some (.int .u64 a1_2) ∧ W.cell? ⟨w.heap.size, 3, none⟩ = some (.int .i64 a1_3)) → W.grownBy W' (Value.slice A2 y.f2.length c2).ownBlock → (W'.cell? ⟨g, a1_1.toNat * 5, none⟩ = some (.int .i64 y.f0) ∧ W'.cell? ⟨g, a1_1.toNat * 5 + 1, none⟩ = some (.int .u64 y.f1) ∧ W'.cell? ⟨g, a1_1.toNat * 5 + 2, none⟩ = some (.slice A2 y.f2.length c2) ∧ W'.cell? ⟨g, a1_1.toNat * 5 + 3, none⟩ = some (.bool y.f3) ∧ W'.cell? ⟨g, a1_1.toNat * 5 + 4, none⟩ = some (.int .i64 y.f4) ∧ W'.cell? ⟨w.heap.size, 0, none⟩ = some (.int .i64 a1_0) ∧ W'.cell? ⟨w.heap.size, 1, none⟩ = some (.int .i64 a1_1) ∧ W'.cell? ⟨w.heap.size, 2, none⟩ = some (.int .u64 a1_2) ∧ W'.cell? ⟨w.heap.size, 3, none⟩ = some (.int .i64 a1_3))) := Lib.hid (fun W W' hS hg => by
     obtain ⟨s0, s1, s2, s3, s4, s5, s6, s7, s8⟩ := hS
     have n1 : some g ≠ (Value.slice A2 y.f2.length c2).ownBlock := fun h => HNG.out g h.symm rfl
     have n2 : some w.heap.size ≠ (Value.slice A2 y.f2.length c2).ownBlock := fun h => Nat.lt_irrefl _ (Nat.lt_of_lt_of_le (Nat.lt_succ_self _) (HGE.out _ h.symm))
     exact ⟨hg.cell s0 n1, hg.cell s1 n1, hg.cell s2 n1, hg.cell s3 n1, hg.cell s4 n1, hg.cell s5 n2, hg.cell s6 n2, hg.cell s7 n2, hg.cell s8 n2⟩)
    clear hcc hfr hof hdo ge hx hM hcl hoi hH hoki gb hi0 hi1
    go_wp2_with fail
    refine start_ (n := 14) (S := fun w' => (w'.cell? ⟨g, a1_1.toNat * 5, none⟩ = some (.int .i64 y.f0) ∧ w'.cell? ⟨g, a1_1.toNat * 5 + 1, none⟩ = some (.int .u64 y.f1) ∧ w'.cell? ⟨g, a1_1.toNat * 5 + 2, none⟩ = some (.slice A2 y.f2.length c2) ∧ w'.cell? ⟨g, a1_1.toNat * 5 + 3, none⟩ = some (.bool y.f3) ∧ w'.cell? ⟨g, a1_1.toNat * 5 + 4, none⟩ = some (.int .i64 y.f4) ∧ w'.cell? ⟨w.heap.size, 0, none⟩ = some (.int .i64 a1_0) ∧ w'.cell? ⟨w.heap.size, 1, none⟩ = some (.int .i64 a1_1) ∧ w'.cell? ⟨w.heap.size, 2, none⟩ = some (.int .u64 a1_2) ∧ w'.cell? ⟨w.heap.size, 3, none⟩ = some (.int .i64 a1_3))) (ds := [13]) #[false, false, false, false, false, false, false, false, false, false, false, false, false, false] (by kernel_rfl) rfl rfl ⟨x0, x1, x2, x3, x4, d0, d1, d2, d3⟩ (fun hHeld => ?_)
    have HX : Hid (Below w2.heap.size w2 w2.drew) := Lib.hid (Below.refl _ _).drew
    generalize w2.drew = X at HX hHeld ⊢
    refine pure_ (i := 0) (N := some 18) (v := ?_) (a' := ?_) #[true, false, false, false, false, false, false, false, false, false, false, false, false, false] rfl rfl (by kernel_rfl) (fun _ _ _ h => h) (Or.inl ⟨by rfl, ?_⟩) ?_ ?_
    rotate_left
    ·intro w'
     go_simp
     with_reducible rfl
    rotate_left
    ·simp only [Act.put, List.setIfInBounds_toArray, List.set_cons_zero, List.set_cons_succ, i64_w, i32_w]
     rfl
    refine pure_ (i := 4) (N := some 22) (v := ?_) (a' := ?_) #[true, false, false, false, true, false, false, false, false, false, false, false, false, false] rfl rfl (by kernel_rfl) (fun _ _ _ h => h) (Or.inl ⟨by rfl, ?_⟩) ?_ ?_
    rotate_left
    ·intro w'
     go_simp
     with_reducible rfl
    rotate_left
    ·simp only [Act.put, List.setIfInBounds_toArray, List.set_cons_zero, List.set_cons_succ, i64_w, i32_w]
     rfl
    refine pure_ (i := 5) (N := some 23) (v := ?_) (a' := ?_) #[true, false, false, false, true, true, false, false, false, false, false, false, false, false] rfl rfl (by kernel_rfl) (fun _ _ _ h => h) (Or.inl ⟨by rfl, ?_⟩) ?_ ?_
    rotate_left
    ·intro w'
     go_simp
     with_reducible rfl
    rotate_left
    ·simp only [Act.put, List.setIfInBounds_toArray, List.set_cons_zero, List.set_cons_succ, i64_w, i32_w]
     rfl
    refine pure_ (i := 9) (N := some 27) (v := ?_) (a' := ?_) #[true, false, false, false, true, true, false, false, false, true, false, false, false, false] rfl rfl (by kernel_rfl) (fun _ _ _ h => h) (Or.inl ⟨by rfl, ?_⟩) ?_ ?_
    rotate_left
    ·intro w'
     go_simp
     with_reducible rfl
    rotate_left
    ·simp only [Act.put, List.setIfInBounds_toArray, List.set_cons_zero, List.set_cons_succ, i64_w, i32_w]
     rfl
    refine take_ (i := 1) (N := some 19) (v := ?_) (a' := ?_) #[true, true, false, false, true, true, false, false, false, true, false, false, false, false] rfl rfl (by kernel_rfl) (fun _ _ _ h => h) (Or.inl ⟨by rfl, ?_⟩) hHeld ?_ ?_
    rotate_left
    ·rintro w' ⟨s0, s1, s2, s3, s4, s5, s6, s7, s8⟩
     go_simp
     with_reducible rfl
    rotate_left
    ·simp only [Act.put, List.setIfInBounds_toArray, List.set_cons_zero, List.set_cons_succ, i64_w, i32_w]
     rfl
    refine take_ (i := 6) (N := some 24) (v := ?_) (a' := ?_) #[true, true, false, false, true, true, true, false, false, true, false, false, false, false] rfl rfl (by kernel_rfl) (fun _ _ _ h => h) (Or.inl ⟨by rfl, ?_⟩) hHeld ?_ ?_
    rotate_left
    ·rintro w' ⟨s0, s1, s2, s3, s4, s5, s6, s7, s8⟩
     go_simp
     with_reducible rfl
    rotate_left
    ·simp only [Act.put, List.setIfInBounds_toArray, List.set_cons_zero, List.set_cons_succ, i64_w, i32_w]
     rfl
    refine take_ (i := 10) (N := some 28) (v := ?_) (a' := ?_) #[true, true, false, false, true, true, true, false, false, true, true, false, false, false] rfl rfl (by kernel_rfl) (fun _ _ _ h => h) (Or.inl ⟨by rfl, ?_⟩) hHeld ?_ ?_
    rotate_left
    ·rintro w' ⟨s0, s1, s2, s3, s4, s5, s6, s7, s8⟩
     go_simp
     with_reducible rfl
    rotate_left
    ·simp only [Act.put, List.setIfInBounds_toArray, List.set_cons_zero, List.set_cons_succ, i64_w, i32_w]
     rfl
    refine pure_ (i := 7) (N := some 25) (v := ?_) (a' := ?_) #[true, true, false, false, true, true, true, true, false, true, true, false, false, false] rfl rfl (by kernel_rfl) (fun _ _ _ h => h) (Or.inl ⟨by rfl, ?_⟩) ?_ ?_
    rotate_left
    ·intro w'
     go_simp
     with_reducible rfl
    rotate_left
    ·simp only [Act.put, List.setIfInBounds_toArray, List.set_cons_zero, List.set_cons_succ, i64_w, i32_w]
     rfl
    refine take_ (i := 8) (N := some 26) (v := ?_) (a' := ?_) #[true, true, false, false, true, true, true, true, true, true, true, false, false, false] rfl rfl (by kernel_rfl) (fun _ _ _ h => h) (Or.inl ⟨by rfl, ?_⟩) hHeld ?_ ?_
    rotate_left
    ·rintro w' ⟨s0, s1, s2, s3, s4, s5, s6, s7, s8⟩
     go_simp
     with_reducible rfl
    rotate_left
    ·simp only [Act.put, List.setIfInBounds_toArray, List.set_cons_zero, List.set_cons_succ, i64_w, i32_w]
     rfl
    refine join_ (σ := Nat × Option Addr × Nat) 1 #[true, true, true, true, true, true, true, true, true, true, true, true, true, false] (fun s => [(20, (.agg #[.func (.func F) #[] #[], .func (.func G) #[] #[]])), (21, (.func (.func G) #[] #[])), (29, .agg #[.int .i64 x.f0, .int .u64 x.f1, (Value.slice s.2.1 x.f2.length s.2.2), .bool x.f3, .int .i64 x.f4]), (7, .pointer (some ⟨s.1, 0, none⟩))]) (fun s w' => (w'.cell? ⟨g, a1_1.toNat * 5, none⟩ = some (.int .i64 y.f0) ∧ w'.cell? ⟨g, a1_1.toNat * 5 + 1, none⟩ = some (.int .u64 y.f1) ∧ w'.cell? ⟨g, a1_1.toNat * 5 + 2, none⟩ = some (.slice A2 y.f2.length c2) ∧ w'.cell? ⟨g, a1_1.toNat * 5 + 3, none⟩ = some (.bool y.f3) ∧ w'.cell? ⟨g, a1_1.toNat * 5 + 4, none⟩ = some (.int .i64 y.f4) ∧ w'.cell? ⟨w.heap.size, 0, none⟩ = some (.int .i64 a1_0) ∧ w'.cell? ⟨w.heap.size, 1, none⟩ = some (.int .i64 a1_1) ∧ w'.cell? ⟨w.heap.size, 2, none⟩ = some (.int .u64 a1_2) ∧ w'.cell? ⟨w.heap.size, 3, none⟩ = some (.int .i64 a1_3)) ∧ Below w.heap.size w w' ∧ Kd.R (Kd.int .i64) 3 w' (w.heap.size + 1) (fun k => some k = (Value.slice s.2.1 x.f2.length s.2.2).ownBlock) (Value.slice s.2.1 x.f2.length s.2.2) x.f2 ∧ Kd.H k54 54 w' (w.heap.size + 1) (fun _ => True) (.slice (some ⟨g, 0, none⟩) out.length co) out a1_1 (fun k => oki k ∨ True ∧ w2.heap.size ≤ k) [.int .i64 y.f0, .int .u64 y.f1, .slice A2 y.f2.length c2, .bool y.f3, .int .i64 y.f4] ∧ w'.heap[s.1]? = some (.cells #[.int .i64 0, .int .u64 0, .slice none 0 0, .bool false, .int .i64 0] 54 (0, 0)) ∧ w2.heap.size ≤ s.1 ∧ (∀ k, some k = (Value.slice s.2.1 x.f2.length s.2.2).ownBlock → (oki k ∨ True ∧ w2.heap.size ≤ k) ∧ k ≠ s.1)) ?_ ?_
    rotate_left
    ·intro hCont
     refine two_ (i := 2) (j := 12) (Ni := some 20) (Nj := some 7) #[true, true, true, false, true, true, true, true, true, true, true, false, false, false] #[true, true, false, false, true, true, true, true, true, true, true, false, true, false] rfl rfl rfl rfl (by kernel_rfl) (by decide) (by decide) (fun K hK => ?_) (fun K hK => ?_)
     ·skip
      refine goes_ Tryd.func63 (by kernel_rfl) rfl #[.int .i64 a1_0] (by rfl) rfl rfl (by (try simp only [List.map_toArray, List.map_cons, List.map_nil]); first | done | rfl) ?_
      refine (HOF.out _).mono ?_
      rintro e w4 ⟨rfl, g1⟩
      refine ⟨_, rfl, ?_⟩
      have n0_ := Lib.hid (HX.out.trans (g1.mono HX.out.size))
      refine hK.out _ _ (HS.out _ _ hHeld (grown_of_below g1 _)) (fun hHeld => ?_)
      clear hK K HX g1
      have HX := n0_
      refine norm_ (a' := ?_) ?_ ?_
      rotate_left
      ·show Act.put _ (some 20) _ = _
       simp only [Act.put, List.setIfInBounds_toArray, List.set_cons_zero, List.set_cons_succ, i64_w, i32_w]
       rfl
      refine pure_ (i := 3) (N := some 21) (v := ?_) (a' := ?_) #[true, true, true, true, true, true, true, true, true, true, true, false, false, false] rfl rfl (by kernel_rfl) (fun _ _ _ h => h) (Or.inl ⟨by rfl, ?_⟩) ?_ ?_
      rotate_left
      ·intro w'
       go_simp
       with_reducible rfl
      rotate_left
      ·simp only [Act.put, List.setIfInBounds_toArray, List.set_cons_zero, List.set_cons_succ, i64_w, i32_w]
       rfl
      refine two_ (i := 11) (j := 12) (Ni := some 29) (Nj := some 7) #[true, true, true, true, true, true, true, true, true, true, true, true, false, false] #[true, true, true, true, true, true, true, true, true, true, true, false, true, false] rfl rfl rfl rfl (by kernel_rfl) (by decide) (by decide) (fun K hK => ?_) (fun K hK => ?_)
      ·skip
       refine call_ G #[.agg #[.int .i64 y.f0, .int .u64 y.f1, .slice A2 y.f2.length c2, .bool y.f3, .int .i64 y.f4], .int .i64 a1_3] (by rfl) rfl (by first | (go_simp; done) | (go_simp; rfl)) ?_
       refine (HDO.out _ (w.heap.size + 1) _ (Kd.R_below HR2.out HX.out) (Nat.le_trans HSZ.out HX.out.size)).mono ?_
       intro e5 w5 hm
       unfold Made at hm
       obtain ⟨v1, rfl, hR5, hg5, hat5⟩ := hm
       obtain ⟨A1, c1, rfl⟩ := Kd.R_slice hR5
       refine ⟨_, rfl, ?_⟩
       have HR5 := Lib.hid hR5
       have HG5 := Lib.hid hg5.size
       have HB5 := Lib.hid (pw_below_grown (HB2.out.trans (HX.out.mono HB2.out.size)) _ (Nat.le_trans HB2.out.size HX.out.size) hg5 (fun k hk => Nat.le_of_succ_le (HGE.out k hk)))
       have HH5 := Lib.hid (Kd.H_grown (Kd.H_below HH2.out HX.out) hg5 (fun k hk => .inl (HOI.out k hk)))
       have HOK5 : Hid (∀ k, some k = (Value.slice A1 x.f2.length c1).ownBlock → oki k ∨ True ∧ w2.heap.size ≤ k) := Lib.hid (fun k hk => by
        rcases hat5 with h | ⟨b5, h, hle⟩
        ·exact .inl (HOI.out k (h ▸ hk.symm))
        ·rw [h] at hk
         injection hk with hk
         exact .inr ⟨trivial, Nat.le_trans HX.out.size (by rw [hk]; exact hle)⟩)
       refine hK.out _ _ (HS.out _ _ hHeld hg5) (fun hHeld => ?_)
       clear hK K hg5 hat5 hR5
       refine norm_ (a' := ?_) ?_ ?_
       rotate_left
       ·show Act.put _ (some 29) _ = _
        simp only [Act.put, List.setIfInBounds_toArray, List.set_cons_zero, List.set_cons_succ, i64_w, i32_w]
        rfl
       refine one_ (i := 12) (N := some 7) #[true, true, true, true, true, true, true, true, true, true, true, true, true, false] rfl rfl (by kernel_rfl) (by decide) (fun K hK => ?_)
       refine box_step (by rfl) (N := 7) rfl (cs := #[.int .i64 0, .int .u64 0, .slice none 0 0, .bool false, .int .i64 0]) (t := 54) (by first | (go_simp; done) | (go_simp; rfl)) ?_
       intro b hbe w8 hbx hb
       refine hK.out _ _ (HS.out _ _ hHeld (grown_of_below hb _)) (fun hHeld => ?_)
       clear hK K
       refine norm_ (a' := ?_) ?_ ?_
       rotate_left
       ·show Act.put _ (some 7) _ = _
        simp only [Act.put, List.setIfInBounds_toArray, List.set_cons_zero, List.set_cons_succ, i64_w, i32_w]
        rfl
       exact norm_ (by simp only [putAll, Act.put, List.setIfInBounds_toArray, List.set_cons_zero, List.set_cons_succ]) (hCont (b, A1, c1) _ ⟨hHeld, HB5.out.trans (hb.mono HB5.out.size), Kd.R_below HR5.out hb, Kd.H_below HH5.out hb, hbx, by rw [hbe]; exact Nat.le_trans HX.out.size HG5.out, fun k hk => ⟨HOK5.out k hk, fun he => by have := Kd.R_lt HR5.out k hk.symm; rw [he, hbe] at this; exact Nat.lt_irrefl _ this⟩⟩)
      ·skip
       refine box_step (by rfl) (N := 7) rfl (cs := #[.int .i64 0, .int .u64 0, .slice none 0 0, .bool false, .int .i64 0]) (t := 54) (by first | (go_simp; done) | (go_simp; rfl)) ?_
       intro b hbe w8 hbx hb
       have n0_ := Lib.hid (HX.out.trans (hb.mono HX.out.size))
       have BX := Lib.hid hbx
       have HBS : Hid (b < w8.heap.size) := Lib.hid (blk_lt hbx)
       have HBG : Hid (w2.heap.size ≤ b) := Lib.hid (by rw [hbe]; exact HX.out.size)
       refine hK.out _ _ (HS.out _ _ hHeld (grown_of_below hb _)) (fun hHeld => ?_)
       clear hK K HX hb hbx hbe
       have HX := n0_
       refine norm_ (a' := ?_) ?_ ?_
       rotate_left
       ·show Act.put _ (some 7) _ = _
        simp only [Act.put, List.setIfInBounds_toArray, List.set_cons_zero, List.set_cons_succ, i64_w, i32_w]
        rfl
       refine one_ (i := 11) (N := some 29) #[true, true, true, true, true, true, true, true, true, true, true, true, true, false] rfl rfl (by kernel_rfl) (by decide) (fun K hK => ?_)
       refine call_ G #[.agg #[.int .i64 y.f0, .int .u64 y.f1, .slice A2 y.f2.length c2, .bool y.f3, .int .i64 y.f4], .int .i64 a1_3] (by rfl) rfl (by first | (go_simp; done) | (go_simp; rfl)) ?_
       refine (HDO.out _ (w.heap.size + 1) _ (Kd.R_below HR2.out HX.out) (Nat.le_trans HSZ.out HX.out.size)).mono ?_
       intro e5 w5 hm
       unfold Made at hm
       obtain ⟨v1, rfl, hR5, hg5, hat5⟩ := hm
       obtain ⟨A1, c1, rfl⟩ := Kd.R_slice hR5
       refine ⟨_, rfl, ?_⟩
       have HR5 := Lib.hid hR5
       have HG5 := Lib.hid hg5.size
       have HB5 := Lib.hid (pw_below_grown (HB2.out.trans (HX.out.mono HB2.out.size)) _ (Nat.le_trans HB2.out.size HX.out.size) hg5 (fun k hk => Nat.le_of_succ_le (HGE.out k hk)))
       have HH5 := Lib.hid (Kd.H_grown (Kd.H_below HH2.out HX.out) hg5 (fun k hk => .inl (HOI.out k hk)))
       have HOK5 : Hid (∀ k, some k = (Value.slice A1 x.f2.length c1).ownBlock → oki k ∨ True ∧ w2.heap.size ≤ k) := Lib.hid (fun k hk => by
        rcases hat5 with h | ⟨b5, h, hle⟩
        ·exact .inl (HOI.out k (h ▸ hk.symm))
        ·rw [h] at hk
         injection hk with hk
         exact .inr ⟨trivial, Nat.le_trans HX.out.size (by rw [hk]; exact hle)⟩)
       have BX5 := Lib.hid (blk_grown BX.out hg5 (fun h => Nat.lt_irrefl _ (Nat.lt_of_lt_of_le (HLT.out _ h.symm) HBG.out)))
       have HNB : Hid (∀ k, some k = (Value.slice A1 x.f2.length c1).ownBlock → k ≠ b) := Lib.hid (fun k hk he => by
        rcases hat5 with h | ⟨b5, h, hle⟩
        ·have h1 := HLT.out k (h ▸ hk.symm)
         have h2 := HBG.out
         omega
        ·rw [h] at hk
         injection hk with hk
         have h2 := HBS.out
         omega)
       refine hK.out _ _ (HS.out _ _ hHeld hg5) (fun hHeld => ?_)
       clear hK K hg5 hat5 hR5
       refine norm_ (a' := ?_) ?_ ?_
       rotate_left
       ·show Act.put _ (some 29) _ = _
        simp only [Act.put, List.setIfInBounds_toArray, List.set_cons_zero, List.set_cons_succ, i64_w, i32_w]
        rfl
       exact norm_ (by simp only [putAll, Act.put, List.setIfInBounds_toArray, List.set_cons_zero, List.set_cons_succ]) (hCont (b, A1, c1) _ ⟨hHeld, HB5.out, HR5.out, HH5.out, BX5.out, HBG.out, fun k hk => ⟨HOK5.out k hk, HNB.out k hk⟩⟩)
     ·skip
      refine box_step (by rfl) (N := 7) rfl (cs := #[.int .i64 0, .int .u64 0, .slice none 0 0, .bool false, .int .i64 0]) (t := 54) (by first | (go_simp; done) | (go_simp; rfl)) ?_
      intro b hbe w8 hbx hb
      have n0_ := Lib.hid (HX.out.trans (hb.mono HX.out.size))
      have BX := Lib.hid hbx
      have HBS : Hid (b < w8.heap.size) := Lib.hid (blk_lt hbx)
      have HBG : Hid (w2.heap.size ≤ b) := Lib.hid (by rw [hbe]; exact HX.out.size)
      refine hK.out _ _ (HS.out _ _ hHeld (grown_of_below hb _)) (fun hHeld => ?_)
      clear hK K HX hb hbx hbe
      have HX := n0_
      refine norm_ (a' := ?_) ?_ ?_
      rotate_left
      ·show Act.put _ (some 7) _ = _
       simp only [Act.put, List.setIfInBounds_toArray, List.set_cons_zero, List.set_cons_succ, i64_w, i32_w]
       rfl
      refine one_ (i := 2) (N := some 20) #[true, true, true, false, true, true, true, true, true, true, true, false, true, false] rfl rfl (by kernel_rfl) (by decide) (fun K hK => ?_)
      refine goes_ Tryd.func63 (by kernel_rfl) rfl #[.int .i64 a1_0] (by rfl) rfl rfl (by (try simp only [List.map_toArray, List.map_cons, List.map_nil]); first | done | rfl) ?_
      refine (HOF.out _).mono ?_
      rintro e w4 ⟨rfl, g1⟩
      refine ⟨_, rfl, ?_⟩
      have n0_ := Lib.hid (HX.out.trans (g1.mono HX.out.size))
      have n1_ := Lib.hid (blk_below BX.out g1)
      have n2_ := Lib.hid (Nat.lt_of_lt_of_le HBS.out g1.size)
      clear BX HBS
      have BX := n1_
      have HBS := n2_
      refine hK.out _ _ (HS.out _ _ hHeld (grown_of_below g1 _)) (fun hHeld => ?_)
      clear hK K HX g1
      have HX := n0_
      refine norm_ (a' := ?_) ?_ ?_
      rotate_left
      ·show Act.put _ (some 20) _ = _
       simp only [Act.put, List.setIfInBounds_toArray, List.set_cons_zero, List.set_cons_succ, i64_w, i32_w]
       rfl
      refine pure_ (i := 3) (N := some 21) (v := ?_) (a' := ?_) #[true, true, true, true, true, true, true, true, true, true, true, false, true, false] rfl rfl (by kernel_rfl) (fun _ _ _ h => h) (Or.inl ⟨by rfl, ?_⟩) ?_ ?_
      rotate_left
      ·intro w'
       go_simp
       with_reducible rfl
      rotate_left
      ·simp only [Act.put, List.setIfInBounds_toArray, List.set_cons_zero, List.set_cons_succ, i64_w, i32_w]
       rfl
      refine one_ (i := 11) (N := some 29) #[true, true, true, true, true, true, true, true, true, true, true, true, true, false] rfl rfl (by kernel_rfl) (by decide) (fun K hK => ?_)
      refine call_ G #[.agg #[.int .i64 y.f0, .int .u64 y.f1, .slice A2 y.f2.length c2, .bool y.f3, .int .i64 y.f4], .int .i64 a1_3] (by rfl) rfl (by first | (go_simp; done) | (go_simp; rfl)) ?_
      refine (HDO.out _ (w.heap.size + 1) _ (Kd.R_below HR2.out HX.out) (Nat.le_trans HSZ.out HX.out.size)).mono ?_
      intro e5 w5 hm
      unfold Made at hm
      obtain ⟨v1, rfl, hR5, hg5, hat5⟩ := hm
      obtain ⟨A1, c1, rfl⟩ := Kd.R_slice hR5
      refine ⟨_, rfl, ?_⟩
      have HR5 := Lib.hid hR5
      have HG5 := Lib.hid hg5.size
      have HB5 := Lib.hid (pw_below_grown (HB2.out.trans (HX.out.mono HB2.out.size)) _ (Nat.le_trans HB2.out.size HX.out.size) hg5 (fun k hk => Nat.le_of_succ_le (HGE.out k hk)))
      have HH5 := Lib.hid (Kd.H_grown (Kd.H_below HH2.out HX.out) hg5 (fun k hk => .inl (HOI.out k hk)))
      have HOK5 : Hid (∀ k, some k = (Value.slice A1 x.f2.length c1).ownBlock → oki k ∨ True ∧ w2.heap.size ≤ k) := Lib.hid (fun k hk => by
       rcases hat5 with h | ⟨b5, h, hle⟩
       ·exact .inl (HOI.out k (h ▸ hk.symm))
       ·rw [h] at hk
        injection hk with hk
        exact .inr ⟨trivial, Nat.le_trans HX.out.size (by rw [hk]; exact hle)⟩)
      have BX5 := Lib.hid (blk_grown BX.out hg5 (fun h => Nat.lt_irrefl _ (Nat.lt_of_lt_of_le (HLT.out _ h.symm) HBG.out)))
      have HNB : Hid (∀ k, some k = (Value.slice A1 x.f2.length c1).ownBlock → k ≠ b) := Lib.hid (fun k hk he => by
       rcases hat5 with h | ⟨b5, h, hle⟩
       ·have h1 := HLT.out k (h ▸ hk.symm)
        have h2 := HBG.out
        omega
       ·rw [h] at hk
        injection hk with hk
        have h2 := HBS.out
        omega)
      refine hK.out _ _ (HS.out _ _ hHeld hg5) (fun hHeld => ?_)
      clear hK K hg5 hat5 hR5
      refine norm_ (a' := ?_) ?_ ?_
      rotate_left
      ·show Act.put _ (some 29) _ = _
       simp only [Act.put, List.setIfInBounds_toArray, List.set_cons_zero, List.set_cons_succ, i64_w, i32_w]
       rfl
      exact norm_ (by simp only [putAll, Act.put, List.setIfInBounds_toArray, List.set_cons_zero, List.set_cons_succ]) (hCont (b, A1, c1) _ ⟨hHeld, HB5.out, HR5.out, HH5.out, BX5.out, HBG.out, fun k hk => ⟨HOK5.out k hk, HNB.out k hk⟩⟩)
    rintro ⟨b, A1, c1⟩ w6 ⟨hHeld, hB, hR, hH, hbx, hbg, hok⟩
    have HB6 := Lib.hid hB
    have HR6 := Lib.hid hR
    have HH6 := Lib.hid hH
    have BX6 := Lib.hid hbx
    have HBG := Lib.hid hbg
    have HOK := Lib.hid hok
    clear hB hR hH hbx hbg hok
    have hgb : g ≠ b := fun he => by have h1 := HG2.out; have h2 := HBG.out; omega
    have hwb : w.heap.size ≠ b := fun he => by have h1 := HSZ.out; have h2 := HBG.out; omega
    refine norm_ (a' := ?_) ?_ ?_
    rotate_left
    ·simp only [putAll, Act.put, List.setIfInBounds_toArray, List.set_cons_zero, List.set_cons_succ]
     rfl
    refine last_ (i := 13) (N := none) #[true, true, true, true, true, true, true, true, true, true, true, true, true, true] rfl rfl (by kernel_rfl) (by decide) (fun K hK => ?_)
    have i0 : w6.cell? ⟨b, 0, none⟩ = some (.int .i64 0) := (blk_cell BX6.out 0).trans rfl
    have j0 := blk_frozen BX6.out 0
    have i1 : w6.cell? ⟨b, 1, none⟩ = some (.int .u64 0) := (blk_cell BX6.out 1).trans rfl
    have j1 := blk_frozen BX6.out 1
    have i2 : w6.cell? ⟨b, 2, none⟩ = some (.slice none 0 0) := (blk_cell BX6.out 2).trans rfl
    have j2 := blk_frozen BX6.out 2
    have i3 : w6.cell? ⟨b, 3, none⟩ = some (.bool false) := (blk_cell BX6.out 3).trans rfl
    have j3 := blk_frozen BX6.out 3
    have i4 : w6.cell? ⟨b, 4, none⟩ = some (.int .i64 0) := (blk_cell BX6.out 4).trans rfl
    have j4 := blk_frozen BX6.out 4
    refine skip_step (by rfl) rfl (w1 := (((((w6.setCell ⟨b, 0, none⟩ (.int .i64 x.f0)).setCell ⟨b, 1, none⟩ (.int .u64 x.f1)).setCell ⟨b, 2, none⟩ (Value.slice A1 x.f2.length c1)).setCell ⟨b, 3, none⟩ (.bool x.f3)).setCell ⟨b, 4, none⟩ (.int .i64 x.f4))) (by first | (go_simp; done) | (go_simp; rfl)) ?_
    obtain ⟨w7, hw7⟩ : ∃ w7, w7 = (((((w6.setCell ⟨b, 0, none⟩ (.int .i64 x.f0)).setCell ⟨b, 1, none⟩ (.int .u64 x.f1)).setCell ⟨b, 2, none⟩ (Value.slice A1 x.f2.length c1)).setCell ⟨b, 3, none⟩ (.bool x.f3)).setCell ⟨b, 4, none⟩ (.int .i64 x.f4)) := ⟨_, rfl⟩
    rw [← hw7]
    have BX7 : Hid (w7.heap[b]? = some (.cells #[.int .i64 x.f0, .int .u64 x.f1, .slice A1 x.f2.length c1, .bool x.f3, .int .i64 x.f4] 54 (0, 0))) := Lib.hid (by rw [hw7]; exact (blk_put (blk_put (blk_put (blk_put (blk_put BX6.out 0 _ rfl) 1 _ rfl) 2 _ rfl) 3 _ rfl) 4 _ rfl))
    have hoth : ∀ k, k ≠ b → w7.heap[k]? = w6.heap[k]? := fun k hk => by rw [hw7]; simp [World.setCell, Array.getElem?_modify, Ne.symm hk]
    have hsz7 : w7.heap.size = w6.heap.size := by rw [hw7]; simp [World.setCell]
    have HB7 : Hid (Below w.heap.size w w7) := Lib.hid (by rw [hw7]; exact (below_set (below_set (below_set (below_set (below_set HB6.out (by have h1 := HSZ.out; have h2 := HBG.out; omega)) (by have h1 := HSZ.out; have h2 := HBG.out; omega)) (by have h1 := HSZ.out; have h2 := HBG.out; omega)) (by have h1 := HSZ.out; have h2 := HBG.out; omega)) (by have h1 := HSZ.out; have h2 := HBG.out; omega)))
    have HR7 : Hid (Kd.R (Kd.int .i64) 3 w7 (w.heap.size + 1) (fun k => some k = (Value.slice A1 x.f2.length c1).ownBlock) (Value.slice A1 x.f2.length c1) x.f2) := Lib.hid (Kd.R_step HR6.out (fun k hk _ => hoth k (HOK.out k hk).2))
    have HH7 : Hid (Kd.H k54 54 w7 (w.heap.size + 1) (fun _ => True) (.slice (some ⟨g, 0, none⟩) out.length co) out a1_1 (fun k => oki k ∨ True ∧ w2.heap.size ≤ k) [.int .i64 y.f0, .int .u64 y.f1, .slice A2 y.f2.length c2, .bool y.f3, .int .i64 y.f4]) := Lib.hid (Kd.H_step HH6.out (fun k _ hn _ => hoth k (fun he => hn (.inr ⟨trivial, he ▸ HBG.out⟩))))
    obtain ⟨s0, s1, s2, s3, s4, s5, s6, s7, s8⟩ := hHeld
    have cell7 : ∀ {a : Addr} {v : Value}, w6.cell? a = some v → a.block ≠ b → w7.cell? a = some v := fun h hne => by simpa [World.cell?, hoth _ hne] using h
    replace s0 := cell7 s0 hgb
    replace s1 := cell7 s1 hgb
    replace s2 := cell7 s2 hgb
    replace s3 := cell7 s3 hgb
    replace s4 := cell7 s4 hgb
    replace s5 := cell7 s5 hwb
    replace s6 := cell7 s6 hwb
    replace s7 := cell7 s7 hwb
    replace s8 := cell7 s8 hwb
    clear i0 i1 i2 i3 i4 j0 j1 j2 j3 j4 hw7 cell7 hoth
    have i0 : w7.cell? ⟨b, 0, none⟩ = some (.int .i64 x.f0) := (blk_cell BX7.out 0).trans rfl
    have j0 := blk_frozen BX7.out 0
    have i1 : w7.cell? ⟨b, 1, none⟩ = some (.int .u64 x.f1) := (blk_cell BX7.out 1).trans rfl
    have j1 := blk_frozen BX7.out 1
    have i2 : w7.cell? ⟨b, 2, none⟩ = some (Value.slice A1 x.f2.length c1) := (blk_cell BX7.out 2).trans rfl
    have j2 := blk_frozen BX7.out 2
    have i3 : w7.cell? ⟨b, 3, none⟩ = some (.bool x.f3) := (blk_cell BX7.out 3).trans rfl
    have j3 := blk_frozen BX7.out 3
    have i4 : w7.cell? ⟨b, 4, none⟩ = some (.int .i64 x.f4) := (blk_cell BX7.out 4).trans rfl
    have j4 := blk_frozen BX7.out 4
    refine hK.out _ _ (done_ (by kernel_rfl) ?_)
    clear hK K
    obtain ⟨_, hfr⟩ := Kd.H_at HH7.out HI0.out HI1.out
    (try rw [show (k54).sz = 5 from rfl] at hfr)
    have t0 : w7.frozen? ⟨g, a1_1.toNat * 5 + 0, none⟩ = false := hfr 0
    have t1 : w7.frozen? ⟨g, a1_1.toNat * 5 + 1, none⟩ = false := hfr 1
    have t2 : w7.frozen? ⟨g, a1_1.toNat * 5 + 2, none⟩ = false := hfr 2
    have t3 : w7.frozen? ⟨g, a1_1.toNat * 5 + 3, none⟩ = false := hfr 3
    have t4 : w7.frozen? ⟨g, a1_1.toNat * 5 + 4, none⟩ = false := hfr 4
    rw [Nat.add_zero] at t0
    clear hfr
    go_wp2_with fail
    have HP := Lib.hid (Kd.S_seg0 (Kd.H_step HH7.out (w1 := w7.setCell ⟨b, 1, none⟩ (.int .u64 (IntKind.u64.wrap (x.f1 + 1)))) (fun k _ hn _ => Below.heap_setCell w7 ⟨b, 1, none⟩ (.int .u64 (IntKind.u64.wrap (x.f1 + 1))) k (fun he => hn (.inr ⟨trivial, he ▸ HBG.out⟩)))) HI0.out HI1.out (seg := [.int .i64 x.f0, (.int .u64 (IntKind.u64.wrap (x.f1 + 1))), .slice A1 x.f2.length c1, .bool x.f3, .int .i64 x.f4]) (j := 0) (show 5 ≤ 5 from by decide) (x' := (⟨x.f0, IntKind.u64.wrap (x.f1 + 1), x.f2, x.f3, x.f4⟩ : S54)) (k54_mkM _ _ _ (⟨x.f0, IntKind.u64.wrap (x.f1 + 1), x.f2, x.f3, x.f4⟩ : S54) (Kd.R_far HR7.out (fun k hk => (HOK.out k hk).2) _)) (fun k hk => (HOK.out k hk).1))
    go_returns
    refine ⟨_, rfl, Kd.S_lower HP.out.1 (Nat.le_succ _), ?_⟩
    have h9 := Nat.le_trans (Nat.le_succ _) (Nat.le_trans HSZ.out HBG.out)
    have h8 := below_set (j := 1) (v := (.int .u64 (IntKind.u64.wrap (x.f1 + 1)))) HB7.out h9
    exact pw_below_grown h8 _ h8.size HP.out.2 (fun k hk => by injection hk with hk; have h1 := HG.out; omega)
   ·rw [if_neg hg] at h3
    cases h3
 ·have h3 := H2.out
  rw [if_pos he0] at h3
  obtain ⟨rfl, rfl⟩ := Prod.mk.inj (Option.some.inj h3)
  have b0 : (e != 0) = true := by simp [he0]
  clear h3 H2
  go_wp2_with fail
  go_returns
  exact ⟨_, rfl, Kd.S_lower HS2.out (Nat.le_succ _), HB2.out⟩
end Go.Proofs.YtlpkandfmbnlnaaDoor.Q
end
section
namespace Go.Proofs.YtlpkandfmbnlnaaDoor.Q
end Go.Proofs.YtlpkandfmbnlnaaDoor.Q
namespace Go.Proofs.YtlpkandfmbnlnaaDoor.R
end Go.Proofs.YtlpkandfmbnlnaaDoor.R
namespace Go.Proofs.YtlpkandfmbnlnaaDoor.Q
open Go.RowKit Go.Proofs.YtlpkandfmbnlnaaDoorW.PrintWords Go.Proofs.YtlpkandfmbnlnaaDoorW.PrintLast Go.Proofs.YtlpkandfmbnlnaaDoorW.PrintMore
attribute [local go_sem] max2_int min2_int max_two min_two max_three min_three max_four min_four   -- for this text's walks alone
set_option linter.unusedVariables false
set_option linter.unusedSimpArgs false
open Go.Proofs.YtlpkandfmbnlnaaDoor.Q Go.Proofs.YtlpkandfmbnlnaaDoor.R
mutual
def conf_Text.l0 : Nat → List ByteArray → List Int → Int → Int → Int → Int → List Int → Bool → Int → Option (ByteArray)
 | 0, _, _, _, _, _, _, _, _, _ => none
 | k + 1, x3, x18, x19, x20, x162000, x162001, x162002, x162003, x162004 => if x20 < x19 then (if 0 ≤ x20 then (if x20 < (x18.length : Int) then ((strconv_Itoa.f (rd x18 x20)).bind fun t169 => (if x3.length < 8796093022208 then (conf_Text.l0 k (x3 ++ [t169]) x18 x19 (wrap64 (x20 + 1)) x162000 x162001 x162002 x162003 x162004) else (none))) else (none)) else (none)) else (if x162003 = true then (if 0 ≤ (wrap64 ((x3.length : Int) - 1)) then (if (wrap64 ((x3.length : Int) - 1)) < (x3.length : Int) then (if (rdOf ByteArray.empty x3 (wrap64 ((x3.length : Int) - 1))).size + 1 ≤ 9223372036854775807 then (conf_Text.j1 k (x3.set ((wrap64 ((x3.length : Int) - 1)) : Int).toNat ((rdOf ByteArray.empty x3 (wrap64 ((x3.length : Int) - 1))) ++ (⟨#[42]⟩ : ByteArray))) x162000 x162001 x162002 x162003 x162004) else (none)) else (none)) else (none)) else (conf_Text.j1 k x3 x162000 x162001 x162002 x162003 x162004))
def conf_Text.j1 : Nat → List ByteArray → Int → Int → List Int → Bool → Int → Option (ByteArray)
 | 0, _, _, _, _, _, _ => none
 | k + 1, x3, x162000, x162001, x162002, x162003, x162004 => if x162004 = 0 then ((strings_Join.f x3 (⟨#[32]⟩ : ByteArray)).bind fun t175 => (some t175)) else ((strconv_Itoa.f x162004).bind fun t176 => (if 1 + t176.size ≤ 9223372036854775807 then (if x3.length < 8796093022208 then ((strings_Join.f (x3 ++ [(⟨#[43]⟩ : ByteArray) ++ t176]) (⟨#[32]⟩ : ByteArray)).bind fun t180 => (some t180)) else (none)) else (none)))
end
def conf_Text.f (k : Nat) (a0_0 : Int) (a0_1 : Int) (l0_2 : List Int) (a0_3 : Bool) (a0_4 : Int) : Option (ByteArray) := (conf_Right.f k a0_0 a0_1 l0_2 a0_3 a0_4).bind fun t162 => (if t162 = true then ((strconv_Itoa.f a0_0).bind fun t163 => ((strconv_FormatUint.f a0_1 10).bind fun t164 => (if t164.size + 1 ≤ 9223372036854775807 then (conf_Text.l0 k (([(⟨#[99, 104, 97, 105, 110]⟩ : ByteArray), t163, (⟨#[101, 112, 111, 99, 104]⟩ : ByteArray), t164 ++ (⟨#[58]⟩ : ByteArray)] : List ByteArray)) l0_2 (l0_2.length : Int) 0 a0_0 a0_1 l0_2 a0_3 a0_4) else (none)))) else (some (⟨#[]⟩ : ByteArray)))
def conf_Text.T3 : Bool × List (List Nat × List Nat) := (true, [([], []), ([0], [0]), ([1], [1]), ([], []), ([3], [3]), ([4, 2], [4]), ([5], [5]), ([2, 6], [2, 6]), ([7, 5, 0, 1, 2, 3, 4, 5, 6, 7], [7])])
def conf_Text.B3 : List Nat := [0, 1, 3, 0, 8, 31, 63, 127, 255]
theorem conf_Text.tab3 : rtab .any (opsOf Tryd.f40 3) = conf_Text.T3 := by kernel_rfl
theorem conf_Text.bits3 : waitsOk conf_Text.T3.2 conf_Text.B3 = true := by kernel_rfl
set_option maxHeartbeats 8000000 in
set_option maxRecDepth 100000 in
theorem conf_Text.calls (k : Nat) (a0_0 : Int) (a0_1 : Int) (A0_2 : Option Addr) (c0_2 : Nat) (l0_2 : List Int) (a0_3 : Bool) (a0_4 : Int) (r : ByteArray) (w : World) (hr0_2 : Kd.C (Kd.int .i64) w A0_2 l0_2.length l0_2) (hc0_2 : l0_2.length ≤ c0_2) (h : conf_Text.f k a0_0 a0_1 l0_2 a0_3 a0_4 = some r) (hE_ : EnvP w := by first | exact HE.out | exact EnvP.drewN HE.out _ | (refine EnvP.below HE.out ?_; repeat (first | exact HB.out | (with_reducible first | apply ba_ | apply bn_ | apply bd_) | (refine be_ ?_ (Aside0.out ?_); rotate_left; assumption)))) :
  Calls Tryd.prog 40 #[.agg #[.int .i64 a0_0, .int .u64 a0_1, .slice A0_2 l0_2.length c0_2, .bool a0_3, .int .i64 a0_4]] w fun e w' => e = .returned (.string r) ∧ Below w.heap.size w w' := by
 have HE := am_ hE_
 clear hE_
 have hu54 := Tryd.underlying54
 have HR0_2 := am_ hr0_2
 have HC0_2 := am_ hc0_2
 clear hr0_2 hc0_2
 have HB := am_ (Below.refl w.heap.size w)
 have H : ((conf_Right.f k a0_0 a0_1 l0_2 a0_3 a0_4).bind fun t162 => (if t162 = true then ((strconv_Itoa.f a0_0).bind fun t163 => ((strconv_FormatUint.f a0_1 10).bind fun t164 => (if t164.size + 1 ≤ 9223372036854775807 then (conf_Text.l0 k (([(⟨#[99, 104, 97, 105, 110]⟩ : ByteArray), t163, (⟨#[101, 112, 111, 99, 104]⟩ : ByteArray), t164 ++ (⟨#[58]⟩ : ByteArray)] : List ByteArray)) l0_2 (l0_2.length : Int) 0 a0_0 a0_1 l0_2 a0_3 a0_4) else (none)))) else (some (⟨#[]⟩ : ByteArray)))) = some r := h
 clear h
 replace H := Option.bind_eq_some_iff.mp H
 obtain ⟨t162, A20, H⟩ := H
 replace H : (if t162 = true then ((strconv_Itoa.f a0_0).bind fun t163 => ((strconv_FormatUint.f a0_1 10).bind fun t164 => (if t164.size + 1 ≤ 9223372036854775807 then (conf_Text.l0 k (([(⟨#[99, 104, 97, 105, 110]⟩ : ByteArray), t163, (⟨#[101, 112, 111, 99, 104]⟩ : ByteArray), t164 ++ (⟨#[58]⟩ : ByteArray)] : List ByteArray)) l0_2 (l0_2.length : Int) 0 a0_0 a0_1 l0_2 a0_3 a0_4) else (none)))) else (some (⟨#[]⟩ : ByteArray))) = some r := H
 have A2 := am_ A20
 clear A20
 by_cases c3 : t162 = true
 ·subst c3
  have H1 : ((strconv_Itoa.f a0_0).bind fun t163 => ((strconv_FormatUint.f a0_1 10).bind fun t164 => (if t164.size + 1 ≤ 9223372036854775807 then (conf_Text.l0 k (([(⟨#[99, 104, 97, 105, 110]⟩ : ByteArray), t163, (⟨#[101, 112, 111, 99, 104]⟩ : ByteArray), t164 ++ (⟨#[58]⟩ : ByteArray)] : List ByteArray)) l0_2 (l0_2.length : Int) 0 a0_0 a0_1 l0_2 a0_3 a0_4) else (none)))) = some r := by rw [if_pos rfl] at H; exact H
  clear H
  have H := H1
  clear H1
  replace H := Option.bind_eq_some_iff.mp H
  obtain ⟨t163, A40, H⟩ := H
  replace H : ((strconv_FormatUint.f a0_1 10).bind fun t164 => (if t164.size + 1 ≤ 9223372036854775807 then (conf_Text.l0 k (([(⟨#[99, 104, 97, 105, 110]⟩ : ByteArray), t163, (⟨#[101, 112, 111, 99, 104]⟩ : ByteArray), t164 ++ (⟨#[58]⟩ : ByteArray)] : List ByteArray)) l0_2 (l0_2.length : Int) 0 a0_0 a0_1 l0_2 a0_3 a0_4) else (none))) = some r := H
  have A4 := am_ A40
  clear A40
  replace H := Option.bind_eq_some_iff.mp H
  obtain ⟨t164, A50, H⟩ := H
  replace H : (if t164.size + 1 ≤ 9223372036854775807 then (conf_Text.l0 k (([(⟨#[99, 104, 97, 105, 110]⟩ : ByteArray), t163, (⟨#[101, 112, 111, 99, 104]⟩ : ByteArray), t164 ++ (⟨#[58]⟩ : ByteArray)] : List ByteArray)) l0_2 (l0_2.length : Int) 0 a0_0 a0_1 l0_2 a0_3 a0_4) else (none)) = some r := H
  have A5 := am_ A50
  clear A50
  by_cases c6 : t164.size + 1 ≤ 9223372036854775807
  ·rw [if_pos c6] at H
   have c6b0 := eq_true c6
   have c6b1 : decide (t164.size + 1 ≤ 9223372036854775807) = true := decide_eq_true c6
   try have c6b2 : (9223372036854775807 < t164.size + 1) = False := eq_false (Nat.not_lt.2 c6)
   obtain ⟨y165, hy165⟩ : ∃ y_ : List ByteArray, y_ = (([(⟨#[99, 104, 97, 105, 110]⟩ : ByteArray), t163, (⟨#[101, 112, 111, 99, 104]⟩ : ByteArray), t164 ++ (⟨#[58]⟩ : ByteArray)] : List ByteArray)) := ⟨_, rfl⟩
   replace H : (conf_Text.l0 k y165 l0_2 (l0_2.length : Int) 0 a0_0 a0_1 l0_2 a0_3 a0_4) = some r := by first | (rw [hy165]; with_reducible exact H) | (have H2_ := (ob_ _ _).symm.trans H; rw [hy165]; with_reducible exact H2_) | (have H2_ := (ob_ _ _).symm.trans H; with_reducible exact H2_) | with_reducible exact H | (rw [hy165]; exact H) | exact H
   have Ny165 := am_ hy165
   clear hy165
   have H' := am_ H
   clear H
   go_enter Tryd.func40, Tryd.ntmps40
   try go_wp2_with (first | ((with_reducible refine gate_dst (N := 1) rfl ?_); refine box_event ?hg (N := 1) ?hd (cs := #[.int .i64 a0_0, .int .u64 a0_1, .slice A0_2 l0_2.length c0_2, .bool a0_3, .int .i64 a0_4]) (t := 54) ?hr ?_; (case hd => rfl); (case hg => rfl); (case hr => first | (go_simp; done) | (go_simp; rfl)); intro gb161 hg w7 hbox hb; have n0_ := am_ (bt_ (by repeat (first | (with_reducible first | exact HB.out | apply ba_ | apply bn_ | apply bd_) | exact HB.out)) hb); have n1_ := am_ (hbox); have n2_ := am_ ((by rw [hg]; exact (bs_ (by repeat (first | (with_reducible first | exact HB.out | apply ba_ | apply bn_ | apply bd_) | exact HB.out))) : w.heap.size ≤ gb161)); have n3_ := am_ ((by rw [hg]; exact (bs_ (by repeat (first | (with_reducible first | exact HB.out | apply ba_ | apply bn_ | apply bd_) | exact HB.out))) : w.heap.size ≤ gb161)); clear HB; have HB := n0_; have BK161 := n1_; have GW161 := n2_; have GE161 := n3_; clear n0_ n1_ n2_ n3_; clear hb hbox hg; have hcz8_0 : w7.cell? ⟨gb161, 0, none⟩ = some (.int .i64 a0_0) := (bc_ BK161.out 0).trans rfl; have hcz8_1 : w7.cell? ⟨gb161, 1, none⟩ = some (.int .u64 a0_1) := (bc_ BK161.out 1).trans rfl; have hcz8_2 : w7.cell? ⟨gb161, 2, none⟩ = some (.slice A0_2 l0_2.length c0_2) := (bc_ BK161.out 2).trans rfl; have hcz8_3 : w7.cell? ⟨gb161, 3, none⟩ = some (.bool a0_3) := (bc_ BK161.out 3).trans rfl; have hcz8_4 : w7.cell? ⟨gb161, 4, none⟩ = some (.int .i64 a0_4) := (bc_ BK161.out 4).trans rfl; have hfz8_0 := bf_ BK161.out 0; have hfz8_1 := bf_ BK161.out 1; have hfz8_2 := bf_ BK161.out 2; have hfz8_3 := bf_ BK161.out 3; have hfz8_4 := bf_ BK161.out 4) | ((with_reducible refine gate_callee (f := 31) rfl ?_); refine goesL_ (some 7) rfl rfl Tryd.func31 (by kernel_rfl) rfl #[.agg #[.int .i64 a0_0, .int .u64 a0_1, .slice A0_2 l0_2.length c0_2, .bool a0_3, .int .i64 a0_4]] rfl (by (try simp only [List.map_toArray, List.map_cons, List.map_nil]); first | done | rfl | (simp only [List.length_drop, lt_]; rfl)) ?_; (with_reducible refine (conf_Right.calls k a0_0 a0_1 _ _ l0_2 a0_3 a0_4 true _ ?side1 ?side2 A2.out).mono ?_); (case side1 => repeat (first | exact (Kd.C_below HR0_2.out HB.out) | (with_reducible refine Kd.C_alloc ?_ _) | (with_reducible refine Kd.C_drewN ?_ _) | (with_reducible refine Kd.C_drew ?_))); (case side2 => exact HC0_2.out); rintro e w9 ⟨rfl, hb⟩; refine ⟨_, rfl, ?_⟩; have n0_ := am_ (blk_below (g := gb161) (o := .cells #[.int .i64 a0_0, .int .u64 a0_1, .slice A0_2 l0_2.length c0_2, .bool a0_3, .int .i64 a0_4] 54 (0, 0)) (by (with_reducible repeat (first | refine bw_ ?_ _ | refine bx_ ?_ | refine bl_ ?_ _)); exact BK161.out) hb); have n1_ := am_ (bt_ (by repeat (first | (with_reducible first | exact HB.out | apply ba_ | apply bn_ | apply bd_ | refine be_ ?_ GE161.out) | exact HB.out)) hb); clear BK161; clear HB; have BK161 := n0_; have HB := n1_; clear n0_ n1_; (try clear hb); (try clear hb2); (try clear hk); (try clear hi)))
   have n0_ := am_ (bx_ BK161.out)
   have n1_ := am_ (bd_ HB.out)
   clear BK161
   clear HB
   have BK161 := n0_
   have HB := n1_
   clear n0_ n1_
   refine start_ (n := 9) (S := fun w' => w'.cell? ⟨gb161, 0, none⟩ = some (.int .i64 a0_0) ∧ w'.cell? ⟨gb161, 1, none⟩ = some (.int .u64 a0_1) ∧ w'.cell? ⟨gb161, 2, none⟩ = some (.slice A0_2 l0_2.length c0_2) ∧ w'.cell? ⟨gb161, 3, none⟩ = some (.bool a0_3) ∧ w'.cell? ⟨gb161, 4, none⟩ = some (.int .i64 a0_4)) (ds := []) #[false, false, false, false, false, false, false, false, false] (by kernel_rfl) rfl rfl ⟨(bc_ BK161.out 0).trans rfl, (bc_ BK161.out 1).trans rfl, (bc_ BK161.out 2).trans rfl, (bc_ BK161.out 3).trans rfl, (bc_ BK161.out 4).trans rfl⟩ (fun hHeld => ?_); refine with_tabW conf_Text.tab3 conf_Text.bits3 (fun HT_ HW_ => ?_)
   generalize w9.drew = w10 at BK161 HB hHeld ⊢
   refine pure_ (i := 0) (N := some 9) (v := ?_) (a' := ?_) #[true, false, false, false, false, false, false, false, false] rfl rfl (any_of HT_.out (by kernel_rfl)) (fun _ _ _ h => h) (Or.inl ⟨by rfl, ?_⟩) ?_ ?_
   rotate_left
   ·intro w'
    go_simp
    with_reducible rfl
   rotate_left
   ·simp only [Act.put, sa_, sz_, ss_, i64_w, i32_w]
    rfl
   refine pure_ (i := 3) (N := some 12) (v := ?_) (a' := ?_) #[true, false, false, true, false, false, false, false, false] rfl rfl (any_of HT_.out (by kernel_rfl)) (fun _ _ _ h => h) (Or.inl ⟨by rfl, ?_⟩) ?_ ?_
   rotate_left
   ·intro w'
    go_simp
    with_reducible rfl
   rotate_left
   ·simp only [Act.put, sa_, sz_, ss_, i64_w, i32_w]
    rfl
   refine take_ (i := 1) (N := some 10) (v := ?_) (a' := ?_) #[true, true, false, true, false, false, false, false, false] rfl rfl (take_ofW HT_.out HW_.out (by kernel_rfl)) (fun _ _ _ h => h) (Or.inl ⟨by rfl, ?_⟩) hHeld ?_ ?_
   rotate_left
   ·rintro w' ⟨s0, s1, s2, s3, s4⟩
    go_simp
    with_reducible rfl
   rotate_left
   ·simp only [Act.put, sa_, sz_, ss_, i64_w, i32_w]
    rfl
   refine take_ (i := 4) (N := some 13) (v := ?_) (a' := ?_) #[true, true, false, true, true, false, false, false, false] rfl rfl (take_ofW HT_.out HW_.out (by kernel_rfl)) (fun _ _ _ h => h) (Or.inl ⟨by rfl, ?_⟩) hHeld ?_ ?_
   rotate_left
   ·rintro w' ⟨s0, s1, s2, s3, s4⟩
    go_simp
    with_reducible rfl
   rotate_left
   ·simp only [Act.put, sa_, sz_, ss_, i64_w, i32_w]
    rfl
   refine one_ (i := 2) (N := some 11) #[true, true, true, true, true, false, false, false, false] rfl rfl (one_of HT_.out (by kernel_rfl)) (by decide) (fun K hK => ?_)
   refine goes_ Tryd.func55 (by kernel_rfl) rfl #[.int .i64 a0_0] (by rfl) rfl rfl (by (try simp only [List.map_toArray, List.map_cons, List.map_nil]); first | done | rfl | (simp only [List.length_drop, lt_]; rfl)) ?_
   with_reducible refine (strconv_Itoa.calls a0_0 t163 _ A4.out).mono ?_
   rintro e w11 ⟨rfl, hb⟩
   refine ⟨_, rfl, ?_⟩
   have n0_ := am_ (blk_below (g := gb161) (o := .cells #[.int .i64 a0_0, .int .u64 a0_1, .slice A0_2 l0_2.length c0_2, .bool a0_3, .int .i64 a0_4] 54 (0, 0)) (by (with_reducible repeat (first | refine bw_ ?_ _ | refine bx_ ?_ | refine bl_ ?_ _)); exact BK161.out) hb)
   have n1_ := am_ (bt_ (by repeat (first | (with_reducible first | exact HB.out | apply ba_ | apply bn_ | apply bd_ | refine be_ ?_ GE161.out) | exact HB.out)) hb)
   clear BK161
   clear HB
   have BK161 := n0_
   have HB := n1_
   clear n0_ n1_
   (try clear hb)
   (try clear hb2)
   (try clear hk)
   (try clear hi)
   refine hK.out _ _ ⟨(bc_ BK161.out 0).trans rfl, (bc_ BK161.out 1).trans rfl, (bc_ BK161.out 2).trans rfl, (bc_ BK161.out 3).trans rfl, (bc_ BK161.out 4).trans rfl⟩ (fun hHeld => ?_)
   clear hK K
   refine norm_ (a' := ?_) ?_ ?_
   rotate_left
   ·show Act.put _ (some 11) _ = _
    simp only [Act.put, sa_, sz_, ss_, i64_w, i32_w]
    rfl
   refine one_ (i := 5) (N := some 14) #[true, true, true, true, true, true, false, false, false] rfl rfl (one_of HT_.out (by kernel_rfl)) (by decide) (fun K hK => ?_)
   refine goes_ Tryd.func56 (by kernel_rfl) rfl #[.int .u64 a0_1, .int .i64 10] (by rfl) rfl rfl (by (try simp only [List.map_toArray, List.map_cons, List.map_nil]); first | done | rfl | (simp only [List.length_drop, lt_]; rfl)) ?_
   with_reducible refine (strconv_FormatUint.calls a0_1 10 t164 _ A5.out).mono ?_
   rintro e w12 ⟨rfl, hb⟩
   refine ⟨_, rfl, ?_⟩
   have n0_ := am_ (blk_below (g := gb161) (o := .cells #[.int .i64 a0_0, .int .u64 a0_1, .slice A0_2 l0_2.length c0_2, .bool a0_3, .int .i64 a0_4] 54 (0, 0)) (by (with_reducible repeat (first | refine bw_ ?_ _ | refine bx_ ?_ | refine bl_ ?_ _)); exact BK161.out) hb)
   have n1_ := am_ (bt_ (by repeat (first | (with_reducible first | exact HB.out | apply ba_ | apply bn_ | apply bd_ | refine be_ ?_ GE161.out) | exact HB.out)) hb)
   clear BK161
   clear HB
   have BK161 := n0_
   have HB := n1_
   clear n0_ n1_
   (try clear hb)
   (try clear hb2)
   (try clear hk)
   (try clear hi)
   refine hK.out _ _ ⟨(bc_ BK161.out 0).trans rfl, (bc_ BK161.out 1).trans rfl, (bc_ BK161.out 2).trans rfl, (bc_ BK161.out 3).trans rfl, (bc_ BK161.out 4).trans rfl⟩ (fun hHeld => ?_)
   clear hK K
   refine norm_ (a' := ?_) ?_ ?_
   rotate_left
   ·show Act.put _ (some 14) _ = _
    simp only [Act.put, sa_, sz_, ss_, i64_w, i32_w]
    rfl
   refine pure_ (i := 6) (N := some 15) (v := ?_) (a' := ?_) #[true, true, true, true, true, true, true, false, false] rfl rfl (any_of HT_.out (by kernel_rfl)) (fun _ _ _ h => h) (Or.inl ⟨by rfl, ?_⟩) ?_ ?_
   rotate_left
   ·intro w'
    go_simp
    with_reducible rfl
   rotate_left
   ·simp only [Act.put, sa_, sz_, ss_, i64_w, i32_w]
    rfl
   refine one_ (i := 7) (N := some 16) #[true, true, true, true, true, true, true, true, false] rfl rfl (one_of HT_.out (by kernel_rfl)) (by decide) (fun K hK => ?_)
   refine Kd.R_lit_step Kd.string _ 9 ?hg (N := 16) ?hd (xs := ([(⟨#[99, 104, 97, 105, 110]⟩ : ByteArray), t163, (⟨#[101, 112, 111, 99, 104]⟩ : ByteArray), t164 ++ (⟨#[58]⟩ : ByteArray)] : List ByteArray)) (inner := [.string (⟨#[99, 104, 97, 105, 110]⟩ : ByteArray), .string t163, .string (⟨#[101, 112, 111, 99, 104]⟩ : ByteArray), .string (t164 ++ (⟨#[58]⟩ : ByteArray))]) (ok := fun _ => True) (okp := fun _ => True) ?hr ?hp (fun _ hk => hk) trivial (Below.refl _ _) (Nat.le_refl _) (by simp) ?_; (case hd => rfl); (case hg => rfl); (case hr => first | (go_simp; done) | (go_simp; rfl)); (case hp => exact (Reps.one (show Kd.M Kd.string _ _ _ (⟨#[99, 104, 97, 105, 110]⟩ : ByteArray) [.string (⟨#[99, 104, 97, 105, 110]⟩ : ByteArray)] from rfl) (Reps.one (show Kd.M Kd.string _ _ _ t163 [.string t163] from rfl) (Reps.one (show Kd.M Kd.string _ _ _ (⟨#[101, 112, 111, 99, 104]⟩ : ByteArray) [.string (⟨#[101, 112, 111, 99, 104]⟩ : ByteArray)] from rfl) (Reps.one (show Kd.M Kd.string _ _ _ (t164 ++ (⟨#[58]⟩ : ByteArray)) [.string (t164 ++ (⟨#[58]⟩ : ByteArray))] from rfl) (Reps.none _ _))))))
   intro v166 w13 ho14 hb hg_ hnew_
   clear hg_ hnew_
   (first | rw [← Ny165.out] at ho14 | (simp only [Int.reduceToNat] at ho14; rw [← Ny165.out] at ho14))
   have n0_ := am_ (Kd.R_lower ho14 (bs_ (by repeat (first | (with_reducible first | exact HB.out | apply ba_ | apply bn_ | apply bd_ | refine be_ ?_ GE161.out) | exact HB.out))))
   have n1_ := am_ (blk_below (g := gb161) (o := .cells #[.int .i64 a0_0, .int .u64 a0_1, .slice A0_2 l0_2.length c0_2, .bool a0_3, .int .i64 a0_4] 54 (0, 0)) (by (with_reducible repeat (first | refine bw_ ?_ _ | refine bx_ ?_ | refine bl_ ?_ _)); exact BK161.out) hb)
   have n2_ := am_ (bt_ (by repeat (first | (with_reducible first | exact HB.out | apply ba_ | apply bn_ | apply bd_ | refine be_ ?_ GE161.out) | exact HB.out)) hb)
   clear BK161
   clear HB
   have HO167 := n0_
   have BK161 := n1_
   have HB := n2_
   clear n0_ n1_ n2_
   clear hb ho14
   refine hK.out _ _ ⟨(bc_ BK161.out 0).trans rfl, (bc_ BK161.out 1).trans rfl, (bc_ BK161.out 2).trans rfl, (bc_ BK161.out 3).trans rfl, (bc_ BK161.out 4).trans rfl⟩ (fun hHeld => ?_)
   clear hK K
   refine norm_ (a' := ?_) ?_ ?_
   rotate_left
   ·show Act.put _ (some 16) _ = _
    simp only [Act.put, sa_, sz_, ss_, i64_w, i32_w]
    rfl
   refine pure_ (i := 8) (N := some 3) (v := ?_) (a' := ?_) #[true, true, true, true, true, true, true, true, true] rfl rfl (any_of HT_.out (by kernel_rfl)) (fun _ _ _ h => h) (Or.inl ⟨by rfl, ?_⟩) ?_ ?_
   rotate_left
   ·intro w'
    go_simp
    with_reducible rfl
   rotate_left
   ·simp only [Act.put, sa_, sz_, ss_, i64_w, i32_w]
    rfl
   refine done_ (done_of HT_.out (by kernel_rfl)) ?_
   have hcz15_0 : w13.cell? ⟨gb161, 0, none⟩ = some (.int .i64 a0_0) := (bc_ BK161.out 0).trans rfl
   have hcz15_1 : w13.cell? ⟨gb161, 1, none⟩ = some (.int .u64 a0_1) := (bc_ BK161.out 1).trans rfl
   have hcz15_2 : w13.cell? ⟨gb161, 2, none⟩ = some (.slice A0_2 l0_2.length c0_2) := (bc_ BK161.out 2).trans rfl
   have hcz15_3 : w13.cell? ⟨gb161, 3, none⟩ = some (.bool a0_3) := (bc_ BK161.out 3).trans rfl
   have hcz15_4 : w13.cell? ⟨gb161, 4, none⟩ = some (.int .i64 a0_4) := (bc_ BK161.out 4).trans rfl
   have hfz15_0 := bf_ BK161.out 0
   have hfz15_1 := bf_ BK161.out 1
   have hfz15_2 := bf_ BK161.out 2
   have hfz15_3 := bf_ BK161.out 3
   have hfz15_4 := bf_ BK161.out 4
   try go_wp2
   go_loopg [3, 20] k (fun kq v3 v20 w' => ∃ (x3_1 : List ByteArray) (x20_1 : Int), v20 = .int .i64 x20_1 ∧ Aside0 (conf_Text.l0 kq x3_1 l0_2 (l0_2.length : Int) x20_1 a0_0 a0_1 l0_2 a0_3 a0_4 = some r) ∧ Aside0 (kq ≤ k) ∧ Aside0 (Kd.R Kd.string 9 w' w.heap.size (fun _ => True) v3 x3_1) ∧ Aside0 (w'.heap[gb161]? = some (.cells #[.int .i64 a0_0, .int .u64 a0_1, (.slice A0_2 l0_2.length c0_2), .bool a0_3, .int .i64 a0_4] 54 (0, 0))) ∧ Aside0 (Below w.heap.size w w'))
   case atStart => exact ⟨(y165), (0), (by first | rfl | (simp; done) | (simp [*]; done)), H', ⟨Nat.le_refl _⟩, ⟨by (with_reducible repeat (first | apply Kd.R_alloc | apply Kd.R_drewN | apply Kd.R_drew)); exact HO167.out⟩, ⟨by (with_reducible repeat (first | refine bw_ ?_ _ | refine bx_ ?_ | refine bl_ ?_ _)); exact BK161.out⟩, ⟨by repeat (first | (with_reducible first | exact HB.out | apply ba_ | apply bn_ | apply bd_ | refine be_ ?_ GE161.out) | exact HB.out)⟩⟩
   case round =>
    clear H'
    try clear p2
    try clear c3
    try clear c4
    try clear c5
    try clear c6
    try clear c6b0
    try clear c6b1
    try clear c6b2
    try clear hcz15_0
    try clear hcz15_1
    try clear hcz15_2
    try clear hcz15_3
    try clear hcz15_4
    try clear hcz8_0
    try clear hcz8_1
    try clear hcz8_2
    try clear hcz8_3
    try clear hcz8_4
    try clear hfz15_0
    try clear hfz15_1
    try clear hfz15_2
    try clear hfz15_3
    try clear hfz15_4
    try clear hfz8_0
    try clear hfz8_1
    try clear hfz8_2
    try clear hfz8_3
    try clear hfz8_4
    obtain ⟨x3_1, x20_1, rfl, HA, HK1, HO_3, BK161, HB⟩ := hrel
    cases gk with
    | zero => exact absurd HA.out (by simp [conf_Text.l0])
    | succ k1 =>
     have H := HA.out
     clear HA
     simp only [conf_Text.l0] at H
     by_cases c16 : x20_1 < (l0_2.length : Int)
     ·rw [if_pos c16] at H
      have c16b0 : decide (x20_1 < (l0_2.length : Int)) = true := decide_eq_true c16
      clear c16
      by_cases c17 : 0 ≤ x20_1
      ·rw [if_pos c17] at H
       have c17b0 : decide (0 ≤ x20_1) = true := decide_eq_true c17
       clear c17
       by_cases c18 : x20_1 < (l0_2.length : Int)
       ·rw [if_pos c18] at H
        have c18b0 : decide (x20_1 < (l0_2.length : Int)) = true := decide_eq_true c18
        clear c18
        replace H := Option.bind_eq_some_iff.mp H
        obtain ⟨t169, A190, H⟩ := H
        replace H : (if x3_1.length < 8796093022208 then (conf_Text.l0 k1 (x3_1 ++ [t169]) l0_2 (l0_2.length : Int) (wrap64 (x20_1 + 1)) a0_0 a0_1 l0_2 a0_3 a0_4) else (none)) = some r := H
        have A19 := am_ A190
        clear A190
        by_cases c20 : x3_1.length < 8796093022208
        ·rw [if_pos c20] at H
         have LMc20 := am_ c20
         clear c20
         obtain ⟨y170, hy170⟩ : ∃ y_ : List ByteArray, y_ = (x3_1 ++ [t169]) := ⟨_, rfl⟩
         replace H : (conf_Text.l0 k1 y170 l0_2 (l0_2.length : Int) (wrap64 (x20_1 + 1)) a0_0 a0_1 l0_2 a0_3 a0_4) = some r := by first | (rw [hy170]; with_reducible exact H) | (have H2_ := (ob_ _ _).symm.trans H; rw [hy170]; with_reducible exact H2_) | (have H2_ := (ob_ _ _).symm.trans H; with_reducible exact H2_) | with_reducible exact H | (rw [hy170]; exact H) | exact H
         have Ny170 := am_ hy170
         clear hy170
         have H' := am_ H
         clear H
         have p168 : 0 ≤ (x20_1 : Int) := od_ (by first | (with_reducible assumption) | assumption)
         have q168 : x20_1 < (l0_2.length : Int) := od_ (by first | (with_reducible assumption) | assumption)
         obtain ⟨ad168, e168, hx168_0⟩ := Kd.at_int HR0_2.out x20_1 p168 q168
         cases e168
         replace hx168_0 := (HB.out.cell (cl_ w _ hx168_0)).trans hx168_0
         replace p168 := eq_true p168
         replace q168 := eq_true q168
         go_wp2_with (first | ((with_reducible refine gate_callee (f := 55) rfl ?_); refine goesL_ (some 26) rfl rfl Tryd.func55 (by kernel_rfl) rfl #[.int .i64 (rd l0_2 x20_1)] rfl (by (try simp only [List.map_toArray, List.map_cons, List.map_nil]); first | done | rfl | (simp only [List.length_drop, lt_]; rfl)) ?_; (with_reducible refine (strconv_Itoa.calls (rd l0_2 x20_1) t169 _ A19.out).mono ?_); rintro e w21 ⟨rfl, hb⟩; refine ⟨_, rfl, ?_⟩; have n0_ := am_ (Kd.R_below (by (with_reducible repeat (first | apply Kd.R_alloc | apply Kd.R_drewN | apply Kd.R_drew)); exact HO_3.out) hb); have n1_ := am_ (blk_below (g := gb161) (o := .cells #[.int .i64 a0_0, .int .u64 a0_1, .slice (some ad168) l0_2.length c0_2, .bool a0_3, .int .i64 a0_4] 54 (0, 0)) (by (with_reducible repeat (first | refine bw_ ?_ _ | refine bx_ ?_ | refine bl_ ?_ _)); exact BK161.out) hb); have n2_ := am_ (bt_ (by repeat (first | (with_reducible first | exact HB.out | apply ba_ | apply bn_ | apply bd_ | refine be_ ?_ GE161.out) | exact HB.out)) hb); clear HO_3; clear BK161; clear HB; have HO_3 := n0_; have BK161 := n1_; have HB := n2_; clear n0_ n1_ n2_; (try clear hb); (try clear hb2); (try clear hk); (try clear hi)) | ((with_reducible refine gate_builtin (b := .append) (xs := #[.tmp 24, .tmp 27]) rfl ?_); at_builtin; refine Kd.R_append Kd.string (w0 := w) w.heap.size rfl (.tmp 24) (.tmp 27) 80 9 (.string ⟨#[]⟩) 16 rfl Tryd.underlying80 info9 rfl (by decide) (by omega) u3 x3_1 t169 [.string t169] (fun _ => True) (fun _ => False) rfl rfl ?aP (fun _ hk => hk.elim) ?aF ?aO ?aB ?aS ?aL ?_; (case aP => exact rfl); (case aB => exact (by repeat (first | (with_reducible first | exact HB.out | apply ba_ | apply bn_ | apply bd_ | refine be_ ?_ GE161.out) | exact HB.out))); (case aF => exact (fun _ _ => trivial)); (case aO => exact (by (with_reducible repeat (first | apply Kd.R_alloc | apply Kd.R_drewN | apply Kd.R_drew)); exact HO_3.out)); (case aS => exact (bs_ (by repeat (first | (with_reducible first | exact HB.out | apply ba_ | apply bn_ | apply bd_ | refine be_ ?_ GE161.out) | exact HB.out)))); (case aL => have := LMc20.out; omega); intro v171 w22 ho hb hg hat; rw [← Ny170.out] at ho; have n0_ := am_ (blk_grown (g := gb161) (o := .cells #[.int .i64 a0_0, .int .u64 a0_1, .slice (some ad168) l0_2.length c0_2, .bool a0_3, .int .i64 a0_4] 54 (0, 0)) (by (with_reducible repeat (first | refine bw_ ?_ _ | refine bx_ ?_ | refine bl_ ?_ _)); exact BK161.out) hg (Kd.R_ne HO_3.out BK161.out (by decide))); have n1_ := am_ (hb); have n2_ := am_ (ho); clear BK161; clear HB; clear HO_3; have BK161 := n0_; have HB := n1_; have HO172 := n2_; clear n0_ n1_ n2_; clear ho hb hg hat))
         go_roundg k1
         case measure => have := HK1.out; omega
         case rel => exact ⟨(y170), (wrap64 (x20_1 + 1)), (by first | rfl | (simp; done) | (simp [*]; done)), H', ⟨by have := HK1.out; omega⟩, ⟨by (with_reducible repeat (first | apply Kd.R_alloc | apply Kd.R_drewN | apply Kd.R_drew)); exact HO172.out⟩, ⟨by (with_reducible repeat (first | refine bw_ ?_ _ | refine bx_ ?_ | refine bl_ ?_ _)); exact BK161.out⟩, ⟨by repeat (first | (with_reducible first | exact HB.out | apply ba_ | apply bn_ | apply bd_ | refine be_ ?_ GE161.out) | exact HB.out)⟩⟩
        ·rw [if_neg c20] at H
         exact absurd H (by simp)
       ·rw [if_neg c18] at H
        exact absurd H (by simp)
      ·rw [if_neg c17] at H
       exact absurd H (by simp)
     ·rw [if_neg c16] at H
      have c16b0 : decide (x20_1 < (l0_2.length : Int)) = false := decide_eq_false c16
      clear c16
      have HC23 := am_ H
      clear H
      have hcz24_0 : wr.cell? ⟨gb161, 0, none⟩ = some (.int .i64 a0_0) := (bc_ BK161.out 0).trans rfl
      have hcz24_1 : wr.cell? ⟨gb161, 1, none⟩ = some (.int .u64 a0_1) := (bc_ BK161.out 1).trans rfl
      have hcz24_2 : wr.cell? ⟨gb161, 2, none⟩ = some (.slice A0_2 l0_2.length c0_2) := (bc_ BK161.out 2).trans rfl
      have hcz24_3 : wr.cell? ⟨gb161, 3, none⟩ = some (.bool a0_3) := (bc_ BK161.out 3).trans rfl
      have hcz24_4 : wr.cell? ⟨gb161, 4, none⟩ = some (.int .i64 a0_4) := (bc_ BK161.out 4).trans rfl
      have hfz24_0 := bf_ BK161.out 0
      have hfz24_1 := bf_ BK161.out 1
      have hfz24_2 := bf_ BK161.out 2
      have hfz24_3 := bf_ BK161.out 3
      have hfz24_4 := bf_ BK161.out 4
      go_upto_if 31 with (fail)
      go_cut [] (fun wc => ∃ (kq : Nat) (x3_22 : List ByteArray), Aside0 (conf_Text.j1 kq x3_22 a0_0 a0_1 l0_2 a0_3 a0_4 = some r) ∧ Aside0 (kq ≤ k1) ∧ Aside0 (Kd.R Kd.string 9 wc w.heap.size (fun _ => True) u3 x3_22) ∧ Aside0 (wc.heap[gb161]? = some (.cells #[.int .i64 a0_0, .int .u64 a0_1, (.slice A0_2 l0_2.length c0_2), .bool a0_3, .int .i64 a0_4] 54 (0, 0))) ∧ Aside0 (Below w.heap.size w wc))
      case first =>
       have H := HC23.out
       clear HC23
       by_cases c25 : a0_3 = true
       ·subst c25
        have H1 : (if 0 ≤ (wrap64 ((x3_1.length : Int) - 1)) then (if (wrap64 ((x3_1.length : Int) - 1)) < (x3_1.length : Int) then (if (rdOf ByteArray.empty x3_1 (wrap64 ((x3_1.length : Int) - 1))).size + 1 ≤ 9223372036854775807 then (conf_Text.j1 k1 (x3_1.set ((wrap64 ((x3_1.length : Int) - 1)) : Int).toNat ((rdOf ByteArray.empty x3_1 (wrap64 ((x3_1.length : Int) - 1))) ++ (⟨#[42]⟩ : ByteArray))) a0_0 a0_1 l0_2 true a0_4) else (none)) else (none)) else (none)) = some r := by rw [if_pos rfl] at H; exact H
        clear H
        have H := H1
        clear H1
        obtain ⟨ji26, hji26⟩ : ∃ j_ : Int, (wrap64 ((x3_1.length : Int) - 1)) = j_ := ⟨_, rfl⟩
        replace H : (if 0 ≤ (ji26) then (if (ji26) < (x3_1.length : Int) then (if (rdOf ByteArray.empty x3_1 (ji26)).size + 1 ≤ 9223372036854775807 then (conf_Text.j1 k1 (x3_1.set ((ji26) : Int).toNat ((rdOf ByteArray.empty x3_1 (ji26)) ++ (⟨#[42]⟩ : ByteArray))) a0_0 a0_1 l0_2 true a0_4) else (none)) else (none)) else (none)) = some r := by first | (rw [hji26] at H; exact H) | (simp only [hji26] at H ⊢; exact H)
        have hji26w : (IntKind.i64.wrap ((x3_1.length : Int) - 1)) = ji26 := (i64_w _).trans hji26
        by_cases c27 : 0 ≤ (ji26)
        ·rw [if_pos c27] at H
         have c27b0 : decide (0 ≤ (ji26)) = true := decide_eq_true c27
         clear c27
         (first | rw [c27b0] | (simp only [i64_w, i32_w]; rw [c27b0]) | skip)
         by_cases c28 : (ji26) < (x3_1.length : Int)
         ·rw [if_pos c28] at H
          have c28b0 : decide ((ji26) < (x3_1.length : Int)) = true := decide_eq_true c28
          clear c28
          by_cases c29 : (rdOf ByteArray.empty x3_1 (ji26)).size + 1 ≤ 9223372036854775807
          ·rw [if_pos c29] at H
           have c29b0 := eq_true c29
           have c29b1 : decide ((rdOf ByteArray.empty x3_1 (ji26)).size + 1 ≤ 9223372036854775807) = true := decide_eq_true c29
           try have c29b2 : (9223372036854775807 < (rdOf ByteArray.empty x3_1 (ji26)).size + 1) = False := eq_false (Nat.not_lt.2 c29)
           obtain ⟨y174, hy174⟩ : ∃ y_ : List ByteArray, y_ = (x3_1.set ((ji26) : Int).toNat ((rdOf ByteArray.empty x3_1 (ji26)) ++ (⟨#[42]⟩ : ByteArray))) := ⟨_, rfl⟩
           replace H : (conf_Text.j1 k1 y174 a0_0 a0_1 l0_2 true a0_4) = some r := by first | (rw [hy174]; with_reducible exact H) | (have H2_ := (ob_ _ _).symm.trans H; rw [hy174]; with_reducible exact H2_) | (have H2_ := (ob_ _ _).symm.trans H; with_reducible exact H2_) | with_reducible exact H | (rw [hy174]; exact H) | exact H
           have Ny174 := am_ hy174
           clear hy174
           have H' := am_ H
           clear H
           obtain ⟨Ao31, co31, eo31⟩ := Kd.R_slice HO_3.out
           subst eo31
           have p173 : 0 ≤ ((ji26) : Int) := od_ (by first | (with_reducible assumption) | assumption)
           have q173 : (ji26) < (x3_1.length : Int) := od_ (by first | (with_reducible assumption) | assumption)
           obtain ⟨ad173, e173, hx173_0⟩ := Kd.at_string (Kd.R_reads' HO_3.out).2.2 (ji26) p173 q173
           cases e173
           replace p173 := eq_true p173
           replace q173 := eq_true q173
           have p30 : 0 ≤ ((ji26) : Int) := od_ (by first | (with_reducible assumption) | assumption)
           have q30 : ((ji26) : Int) < ((x3_1.length : Int) : Int) := od_ (by first | (with_reducible assumption) | assumption)
           obtain ⟨go30, co30, eo30, gb30, gl30, cl30, HG30⟩ := Kd.R_form HO_3.out (by omega)
           (first | cases eo30 | (injection eo30 with ea_ en_ ec_; (first | subst ea_ | (injection ea_ with ea_; subst ea_)); subst ec_; clear en_))
           have GB30 := am_ gb30
           have GG30 := am_ HG30
           clear gb30 gl30 HG30
           (first | simp only [add_plain] at hx173_0 | skip)
           obtain ⟨hx30_0, hf30_0⟩ := Kd.R_celln (⟨#[]⟩ : ByteArray) HO_3.out ((ji26) : Int) p30 q30
           replace p30 := eq_true p30
           replace q30 := eq_true q30
           have HP32 := Kd.R_putg HO_3.out ((ji26) : Int) ((rdOf ByteArray.empty x3_1 (ji26)) ++ (⟨#[42]⟩ : ByteArray))
           go_wp2_with (first | ((with_reducible refine gate_store (t := 9) (p := 39) rfl ?_); refine store_event (t := 9) (p := 39) (v := ?vo_w33) (w1 := (wr.setCell ⟨go30, ((ji26) : Int).toNat, none⟩ (.string ((rdOf ByteArray.empty x3_1 (ji26)) ++ (⟨#[42]⟩ : ByteArray))))) ?hg ?ho ?hn ?hr ?_; (case ho => rfl); (case hg => rfl); (case hn => rfl); (case hr => first | (go_simp; done) | (go_simp; rfl)); intro w33 hw; have hg : wr.grownBy w33 (some go30) := (by rw [hw]; exact HP32.2); have hp_ : Kd.R Kd.string 9 w33 w.heap.size (fun _ => True) (.slice (some ⟨go30, 0, none⟩) x3_1.length co31) y174 := (by rw [hw, Ny174.out]; exact HP32.1); clear HP32; have n0_ := am_ (hp_); have n1_ := am_ (blk_grown (g := gb161) (o := .cells #[.int .i64 a0_0, .int .u64 a0_1, .slice A0_2 l0_2.length c0_2, .bool true, .int .i64 a0_4] 54 (0, 0)) (by (with_reducible repeat (first | refine bw_ ?_ _ | refine bx_ ?_ | refine bl_ ?_ _)); exact BK161.out) hg (Kd.R_ne HO_3.out BK161.out (by decide))); have n2_ := am_ ((by rw [hw]; exact be_ (HB.out) GB30.out : Below w.heap.size w w33)); clear HO_3; clear BK161; clear HB; have HO_3 := n0_; have BK161 := n1_; have HB := n2_; clear n0_ n1_ n2_; clear hg hw hp_))
           go_meet
           case rel => exact ⟨_, (y174), H', ⟨by have := HK1.out; first | omega | exact Nat.le_refl _⟩, ⟨by (with_reducible repeat (first | apply Kd.R_alloc | apply Kd.R_drewN | apply Kd.R_drew)); exact HO_3.out⟩, ⟨by (with_reducible repeat (first | refine bw_ ?_ _ | refine bx_ ?_ | refine bl_ ?_ _)); exact BK161.out⟩, ⟨by repeat (first | (with_reducible first | exact HB.out | apply ba_ | apply bn_ | apply bd_ | refine be_ ?_ GE161.out) | exact HB.out)⟩⟩
          ·rw [if_neg c29] at H
           exact absurd H (by simp)
         ·rw [if_neg c28] at H
          exact absurd H (by simp)
        ·rw [if_neg c27] at H
         exact absurd H (by simp)
       ·replace c25 := Bool.eq_false_iff.mpr c25
        subst c25
        have H1 : (conf_Text.j1 k1 x3_1 a0_0 a0_1 l0_2 false a0_4) = some r := by rw [if_neg (show ¬ (false = true) by decide)] at H; exact H
        clear H
        have H := H1
        clear H1
        have H' := am_ H
        clear H
        go_wp2
        go_meet
        case rel => exact ⟨_, (x3_1), H', ⟨by have := HK1.out; first | omega | exact Nat.le_refl _⟩, ⟨by (with_reducible repeat (first | apply Kd.R_alloc | apply Kd.R_drewN | apply Kd.R_drew)); exact HO_3.out⟩, ⟨by (with_reducible repeat (first | refine bw_ ?_ _ | refine bx_ ?_ | refine bl_ ?_ _)); exact BK161.out⟩, ⟨by repeat (first | (with_reducible first | exact HB.out | apply ba_ | apply bn_ | apply bd_ | refine be_ ?_ GE161.out) | exact HB.out)⟩⟩
      case rest =>
       clear HC23
       try clear c1
       try clear p1
       try clear q1
       try clear hx1
       try clear c2
       try clear p2
       try clear c3
       try clear p3
       try clear q3
       try clear hx3
       try clear hf3
       try clear c4
       try clear c5
       try clear c6
       try clear c6b0
       try clear c6b1
       try clear c6b2
       try clear p6
       try clear c16
       try clear c16b0
       try clear p16
       try clear q16
       try clear hx16
       try clear c17
       try clear c17b0
       try clear p17
       try clear q17
       try clear hx17
       try clear c18
       try clear c18b0
       try clear c20
       try clear c25
       try clear c27
       try clear c27b0
       try clear c28
       try clear c28b0
       try clear c29
       try clear c29b0
       try clear c29b1
       try clear c29b2
       try clear p30
       try clear q30
       try clear hx30
       try clear hf30
       try clear c31
       try clear hcz15_0
       try clear hcz15_1
       try clear hcz15_2
       try clear hcz15_3
       try clear hcz15_4
       try clear hcz24_0
       try clear hcz24_1
       try clear hcz24_2
       try clear hcz24_3
       try clear hcz24_4
       try clear hcz8_0
       try clear hcz8_1
       try clear hcz8_2
       try clear hcz8_3
       try clear hcz8_4
       try clear hfz15_0
       try clear hfz15_1
       try clear hfz15_2
       try clear hfz15_3
       try clear hfz15_4
       try clear hfz24_0
       try clear hfz24_1
       try clear hfz24_2
       try clear hfz24_3
       try clear hfz24_4
       try clear hfz8_0
       try clear hfz8_1
       try clear hfz8_2
       try clear hfz8_3
       try clear hfz8_4
       try clear hx168_0
       try clear hx173_0
       try clear hx30_0
       try clear p168
       try clear p173
       try clear p2
       try clear p30
       try clear q168
       try clear q173
       try clear q30
       obtain ⟨kq, x3_22, HA, HJ22, HO_3, BK161, HB⟩ := hcut
       cases kq with
       | zero => exact absurd HA.out (by simp [conf_Text.j1])
       | succ kj22 =>
        have H := HA.out
        clear HA
        simp only [conf_Text.j1] at H
        by_cases c34 : a0_4 = 0
        ·rw [if_pos c34] at H
         have c34b0 : (a0_4 == 0) = true := beq_iff_eq.mpr c34
         have c34b1 : (a0_4 != 0) = false := bne_eq_false_iff_eq.mpr c34
         clear c34
         replace H := Option.bind_eq_some_iff.mp H
         obtain ⟨t175, A350, H⟩ := H
         replace H : (some t175) = some r := H
         have A35 := am_ A350
         clear A350
         obtain rfl := Option.some.inj H
         have hcz36_0 : wc.cell? ⟨gb161, 0, none⟩ = some (.int .i64 a0_0) := (bc_ BK161.out 0).trans rfl
         have hcz36_1 : wc.cell? ⟨gb161, 1, none⟩ = some (.int .u64 a0_1) := (bc_ BK161.out 1).trans rfl
         have hcz36_2 : wc.cell? ⟨gb161, 2, none⟩ = some (.slice A0_2 l0_2.length c0_2) := (bc_ BK161.out 2).trans rfl
         have hcz36_3 : wc.cell? ⟨gb161, 3, none⟩ = some (.bool a0_3) := (bc_ BK161.out 3).trans rfl
         have hcz36_4 : wc.cell? ⟨gb161, 4, none⟩ = some (.int .i64 a0_4) := (bc_ BK161.out 4).trans rfl
         have hfz36_0 := bf_ BK161.out 0
         have hfz36_1 := bf_ BK161.out 1
         have hfz36_2 := bf_ BK161.out 2
         have hfz36_3 := bf_ BK161.out 3
         have hfz36_4 := bf_ BK161.out 4
         obtain ⟨Ao37, co37, eo37⟩ := Kd.R_slice HO_3.out
         subst eo37
         go_wp2_with (first | ((with_reducible refine gate_callee (f := 54) rfl ?_); refine goesL_ (some 51) rfl rfl Tryd.func54 (by kernel_rfl) rfl #[.slice Ao37 x3_22.length co37, .string (⟨#[32]⟩ : ByteArray)] rfl (by (try simp only [List.map_toArray, List.map_cons, List.map_nil]); first | done | rfl | (simp only [List.length_drop, lt_]; rfl)) ?_; (with_reducible refine (strings_Join.calls _ _ x3_22 (⟨#[32]⟩ : ByteArray) t175 _ ?side1 ?side2 A35.out).mono ?_); (case side1 => repeat (first | exact (Kd.R_reads' HO_3.out).2.2 | (with_reducible refine Kd.C_alloc ?_ _) | (with_reducible refine Kd.C_drewN ?_ _) | (with_reducible refine Kd.C_drew ?_))); (case side2 => exact (Kd.R_reads' HO_3.out).2.1); rintro e w38 ⟨rfl, hb⟩; refine ⟨_, rfl, ?_⟩; have n0_ := am_ (Kd.R_below (by (with_reducible repeat (first | apply Kd.R_alloc | apply Kd.R_drewN | apply Kd.R_drew)); exact HO_3.out) hb); have n1_ := am_ (blk_below (g := gb161) (o := .cells #[.int .i64 a0_0, .int .u64 a0_1, .slice A0_2 l0_2.length c0_2, .bool a0_3, .int .i64 a0_4] 54 (0, 0)) (by (with_reducible repeat (first | refine bw_ ?_ _ | refine bx_ ?_ | refine bl_ ?_ _)); exact BK161.out) hb); have n2_ := am_ (bt_ (by repeat (first | (with_reducible first | exact HB.out | apply ba_ | apply bn_ | apply bd_ | refine be_ ?_ GE161.out) | exact HB.out)) hb); clear HO_3; clear BK161; clear HB; have HO_3 := n0_; have BK161 := n1_; have HB := n2_; clear n0_ n1_ n2_; (try clear hb); (try clear hb2); (try clear hk); (try clear hi)))
         go_ret
         exact ⟨by first | rfl | (simp [errW_none, errW_some] <;> rfl) | (simp [*, errW_none, errW_some] <;> rfl), by repeat (first | (with_reducible first | exact HB.out | apply ba_ | apply bn_ | apply bd_ | refine be_ ?_ GE161.out) | exact HB.out)⟩
        ·rw [if_neg c34] at H
         have c34b0 : (a0_4 == 0) = false := beq_eq_false_iff_ne.mpr c34
         have c34b1 : (a0_4 != 0) = true := bne_iff_ne.mpr c34
         replace H := Option.bind_eq_some_iff.mp H
         obtain ⟨t176, A390, H⟩ := H
         replace H : (if 1 + t176.size ≤ 9223372036854775807 then (if x3_22.length < 8796093022208 then ((strings_Join.f (x3_22 ++ [(⟨#[43]⟩ : ByteArray) ++ t176]) (⟨#[32]⟩ : ByteArray)).bind fun t180 => (some t180)) else (none)) else (none)) = some r := H
         have A39 := am_ A390
         clear A390
         by_cases c40 : 1 + t176.size ≤ 9223372036854775807
         ·rw [if_pos c40] at H
          have c40b0 := eq_true c40
          have c40b1 : decide (1 + t176.size ≤ 9223372036854775807) = true := decide_eq_true c40
          try have c40b2 : (9223372036854775807 < 1 + t176.size) = False := eq_false (Nat.not_lt.2 c40)
          by_cases c41 : x3_22.length < 8796093022208
          ·rw [if_pos c41] at H
           have LMc41 := am_ c41
           clear c41
           obtain ⟨y177, hy177⟩ : ∃ y_ : List ByteArray, y_ = (x3_22 ++ [(⟨#[43]⟩ : ByteArray) ++ t176]) := ⟨_, rfl⟩
           replace H : ((strings_Join.f y177 (⟨#[32]⟩ : ByteArray)).bind fun t180 => (some t180)) = some r := by first | (rw [hy177]; with_reducible exact H) | (have H2_ := (ob_ _ _).symm.trans H; rw [hy177]; with_reducible exact H2_) | (have H2_ := (ob_ _ _).symm.trans H; with_reducible exact H2_) | with_reducible exact H | (rw [hy177]; exact H) | exact H
           have Ny177 := am_ hy177
           clear hy177
           replace H := Option.bind_eq_some_iff.mp H
           obtain ⟨t180, A420, H⟩ := H
           replace H : (some t180) = some r := H
           have A42 := am_ A420
           clear A420
           obtain rfl := Option.some.inj H
           have hcz43_0 : wc.cell? ⟨gb161, 0, none⟩ = some (.int .i64 a0_0) := (bc_ BK161.out 0).trans rfl
           have hcz43_1 : wc.cell? ⟨gb161, 1, none⟩ = some (.int .u64 a0_1) := (bc_ BK161.out 1).trans rfl
           have hcz43_2 : wc.cell? ⟨gb161, 2, none⟩ = some (.slice A0_2 l0_2.length c0_2) := (bc_ BK161.out 2).trans rfl
           have hcz43_3 : wc.cell? ⟨gb161, 3, none⟩ = some (.bool a0_3) := (bc_ BK161.out 3).trans rfl
           have hcz43_4 : wc.cell? ⟨gb161, 4, none⟩ = some (.int .i64 a0_4) := (bc_ BK161.out 4).trans rfl
           have hfz43_0 := bf_ BK161.out 0
           have hfz43_1 := bf_ BK161.out 1
           have hfz43_2 := bf_ BK161.out 2
           have hfz43_3 := bf_ BK161.out 3
           have hfz43_4 := bf_ BK161.out 4
           go_wp2_with (first | ((with_reducible refine gate_callee (f := 55) rfl ?_); refine goesL_ (some 46) rfl rfl Tryd.func55 (by kernel_rfl) rfl #[.int .i64 a0_4] rfl (by (try simp only [List.map_toArray, List.map_cons, List.map_nil]); first | done | rfl | (simp only [List.length_drop, lt_]; rfl)) ?_; (with_reducible refine (strconv_Itoa.calls a0_4 t176 _ A39.out).mono ?_); rintro e w44 ⟨rfl, hb⟩; refine ⟨_, rfl, ?_⟩; have n0_ := am_ (Kd.R_below (by (with_reducible repeat (first | apply Kd.R_alloc | apply Kd.R_drewN | apply Kd.R_drew)); exact HO_3.out) hb); have n1_ := am_ (blk_below (g := gb161) (o := .cells #[.int .i64 a0_0, .int .u64 a0_1, .slice A0_2 l0_2.length c0_2, .bool a0_3, .int .i64 a0_4] 54 (0, 0)) (by (with_reducible repeat (first | refine bw_ ?_ _ | refine bx_ ?_ | refine bl_ ?_ _)); exact BK161.out) hb); have n2_ := am_ (bt_ (by repeat (first | (with_reducible first | exact HB.out | apply ba_ | apply bn_ | apply bd_ | refine be_ ?_ GE161.out) | exact HB.out)) hb); clear HO_3; clear BK161; clear HB; have HO_3 := n0_; have BK161 := n1_; have HB := n2_; clear n0_ n1_ n2_; (try clear hb); (try clear hb2); (try clear hk); (try clear hi)) | ((with_reducible refine gate_builtin (b := .append) (xs := #[.tmp 43, .tmp 48]) rfl ?_); at_builtin; refine Kd.R_append Kd.string (w0 := w) w.heap.size rfl (.tmp 43) (.tmp 48) 80 9 (.string ⟨#[]⟩) 16 rfl Tryd.underlying80 info9 rfl (by decide) (by omega) u3 x3_22 ((⟨#[43]⟩ : ByteArray) ++ t176) [.string ((⟨#[43]⟩ : ByteArray) ++ t176)] (fun _ => True) (fun _ => False) rfl rfl ?aP (fun _ hk => hk.elim) ?aF ?aO ?aB ?aS ?aL ?_; (case aP => exact rfl); (case aB => exact (by repeat (first | (with_reducible first | exact HB.out | apply ba_ | apply bn_ | apply bd_ | refine be_ ?_ GE161.out) | exact HB.out))); (case aF => exact (fun _ _ => trivial)); (case aO => exact (by (with_reducible repeat (first | apply Kd.R_alloc | apply Kd.R_drewN | apply Kd.R_drew)); exact HO_3.out)); (case aS => exact (bs_ (by repeat (first | (with_reducible first | exact HB.out | apply ba_ | apply bn_ | apply bd_ | refine be_ ?_ GE161.out) | exact HB.out)))); (case aL => have := LMc41.out; omega); intro v178 w45 ho hb hg hat; rw [← Ny177.out] at ho; have n0_ := am_ (blk_grown (g := gb161) (o := .cells #[.int .i64 a0_0, .int .u64 a0_1, .slice A0_2 l0_2.length c0_2, .bool a0_3, .int .i64 a0_4] 54 (0, 0)) (by (with_reducible repeat (first | refine bw_ ?_ _ | refine bx_ ?_ | refine bl_ ?_ _)); exact BK161.out) hg (Kd.R_ne HO_3.out BK161.out (by decide))); have n1_ := am_ (hb); have n2_ := am_ (ho); clear BK161; clear HB; clear HO_3; have BK161 := n0_; have HB := n1_; have HO179 := n2_; clear n0_ n1_ n2_; clear ho hb hg hat; obtain ⟨Ao46, co46, eo46⟩ := Kd.R_slice HO179.out; subst eo46) | ((with_reducible refine gate_callee (f := 54) rfl ?_); refine goesL_ (some 51) rfl rfl Tryd.func54 (by kernel_rfl) rfl #[.slice Ao46 y177.length co46, .string (⟨#[32]⟩ : ByteArray)] rfl (by (try simp only [List.map_toArray, List.map_cons, List.map_nil]); first | done | rfl | (simp only [List.length_drop, lt_]; rfl)) ?_; (with_reducible refine (strings_Join.calls _ _ y177 (⟨#[32]⟩ : ByteArray) t180 _ ?side1 ?side2 A42.out).mono ?_); (case side1 => repeat (first | exact (Kd.R_reads' HO179.out).2.2 | (with_reducible refine Kd.C_alloc ?_ _) | (with_reducible refine Kd.C_drewN ?_ _) | (with_reducible refine Kd.C_drew ?_))); (case side2 => exact (Kd.R_reads' HO179.out).2.1); rintro e w47 ⟨rfl, hb⟩; refine ⟨_, rfl, ?_⟩; have n0_ := am_ (Kd.R_below (by (with_reducible repeat (first | apply Kd.R_alloc | apply Kd.R_drewN | apply Kd.R_drew)); exact HO179.out) hb); have n1_ := am_ (blk_below (g := gb161) (o := .cells #[.int .i64 a0_0, .int .u64 a0_1, .slice A0_2 l0_2.length c0_2, .bool a0_3, .int .i64 a0_4] 54 (0, 0)) (by (with_reducible repeat (first | refine bw_ ?_ _ | refine bx_ ?_ | refine bl_ ?_ _)); exact BK161.out) hb); have n2_ := am_ (bt_ (by repeat (first | (with_reducible first | exact HB.out | apply ba_ | apply bn_ | apply bd_ | refine be_ ?_ GE161.out) | exact HB.out)) hb); clear HO179; clear BK161; clear HB; have HO179 := n0_; have BK161 := n1_; have HB := n2_; clear n0_ n1_ n2_; (try clear hb); (try clear hb2); (try clear hk); (try clear hi)))
           go_ret
           exact ⟨by first | rfl | (simp [errW_none, errW_some] <;> rfl) | (simp [*, errW_none, errW_some] <;> rfl), by repeat (first | (with_reducible first | exact HB.out | apply ba_ | apply bn_ | apply bd_ | refine be_ ?_ GE161.out) | exact HB.out)⟩
          ·rw [if_neg c41] at H
           exact absurd H (by simp)
         ·rw [if_neg c40] at H
          exact absurd H (by simp)
  ·rw [if_neg c6] at H
   exact absurd H (by simp)
 ·replace c3 := Bool.eq_false_iff.mpr c3
  subst c3
  have H1 : (some (⟨#[]⟩ : ByteArray)) = some r := by rw [if_neg (show ¬ (false = true) by decide)] at H; exact H
  clear H
  have H := H1
  clear H1
  obtain rfl := Option.some.inj H
  go_enter Tryd.func40, Tryd.ntmps40
  go_wp2_with (first | ((with_reducible refine gate_dst (N := 1) rfl ?_); refine box_event ?hg (N := 1) ?hd (cs := #[.int .i64 a0_0, .int .u64 a0_1, .slice A0_2 l0_2.length c0_2, .bool a0_3, .int .i64 a0_4]) (t := 54) ?hr ?_; (case hd => rfl); (case hg => rfl); (case hr => first | (go_simp; done) | (go_simp; rfl)); intro gb161 hg w48 hbox hb; have n0_ := am_ (bt_ (by repeat (first | (with_reducible first | exact HB.out | apply ba_ | apply bn_ | apply bd_) | exact HB.out)) hb); have n1_ := am_ (hbox); have n2_ := am_ ((by rw [hg]; exact (bs_ (by repeat (first | (with_reducible first | exact HB.out | apply ba_ | apply bn_ | apply bd_) | exact HB.out))) : w.heap.size ≤ gb161)); have n3_ := am_ ((by rw [hg]; exact (bs_ (by repeat (first | (with_reducible first | exact HB.out | apply ba_ | apply bn_ | apply bd_) | exact HB.out))) : w.heap.size ≤ gb161)); clear HB; have HB := n0_; have BK161 := n1_; have GW161 := n2_; have GE161 := n3_; clear n0_ n1_ n2_ n3_; clear hb hbox hg; have hcz49_0 : w48.cell? ⟨gb161, 0, none⟩ = some (.int .i64 a0_0) := (bc_ BK161.out 0).trans rfl; have hcz49_1 : w48.cell? ⟨gb161, 1, none⟩ = some (.int .u64 a0_1) := (bc_ BK161.out 1).trans rfl; have hcz49_2 : w48.cell? ⟨gb161, 2, none⟩ = some (.slice A0_2 l0_2.length c0_2) := (bc_ BK161.out 2).trans rfl; have hcz49_3 : w48.cell? ⟨gb161, 3, none⟩ = some (.bool a0_3) := (bc_ BK161.out 3).trans rfl; have hcz49_4 : w48.cell? ⟨gb161, 4, none⟩ = some (.int .i64 a0_4) := (bc_ BK161.out 4).trans rfl; have hfz49_0 := bf_ BK161.out 0; have hfz49_1 := bf_ BK161.out 1; have hfz49_2 := bf_ BK161.out 2; have hfz49_3 := bf_ BK161.out 3; have hfz49_4 := bf_ BK161.out 4) | ((with_reducible refine gate_callee (f := 31) rfl ?_); refine goesL_ (some 7) rfl rfl Tryd.func31 (by kernel_rfl) rfl #[.agg #[.int .i64 a0_0, .int .u64 a0_1, .slice A0_2 l0_2.length c0_2, .bool a0_3, .int .i64 a0_4]] rfl (by (try simp only [List.map_toArray, List.map_cons, List.map_nil]); first | done | rfl | (simp only [List.length_drop, lt_]; rfl)) ?_; (with_reducible refine (conf_Right.calls k a0_0 a0_1 _ _ l0_2 a0_3 a0_4 false _ ?side1 ?side2 A2.out).mono ?_); (case side1 => repeat (first | exact (Kd.C_below HR0_2.out HB.out) | (with_reducible refine Kd.C_alloc ?_ _) | (with_reducible refine Kd.C_drewN ?_ _) | (with_reducible refine Kd.C_drew ?_))); (case side2 => exact HC0_2.out); rintro e w50 ⟨rfl, hb⟩; refine ⟨_, rfl, ?_⟩; have n0_ := am_ (blk_below (g := gb161) (o := .cells #[.int .i64 a0_0, .int .u64 a0_1, .slice A0_2 l0_2.length c0_2, .bool a0_3, .int .i64 a0_4] 54 (0, 0)) (by (with_reducible repeat (first | refine bw_ ?_ _ | refine bx_ ?_ | refine bl_ ?_ _)); exact BK161.out) hb); have n1_ := am_ (bt_ (by repeat (first | (with_reducible first | exact HB.out | apply ba_ | apply bn_ | apply bd_ | refine be_ ?_ GE161.out) | exact HB.out)) hb); clear BK161; clear HB; have BK161 := n0_; have HB := n1_; clear n0_ n1_; (try clear hb); (try clear hb2); (try clear hk); (try clear hi)))
  go_ret
  exact ⟨by first | rfl | (simp [errW_none, errW_some] <;> rfl) | (simp [*, errW_none, errW_some] <;> rfl), by repeat (first | (with_reducible first | exact HB.out | apply ba_ | apply bn_ | apply bd_ | refine be_ ?_ GE161.out) | exact HB.out)⟩
end Go.Proofs.YtlpkandfmbnlnaaDoor.Q
end
section
namespace Go.Proofs.YtlpkandfmbnlnaaDoor.Q
end Go.Proofs.YtlpkandfmbnlnaaDoor.Q
namespace Go.Proofs.YtlpkandfmbnlnaaDoor.R
end Go.Proofs.YtlpkandfmbnlnaaDoor.R
namespace Go.Proofs.YtlpkandfmbnlnaaDoor.Q
open Go.RowKit Go.Proofs.YtlpkandfmbnlnaaDoorW.PrintWords Go.Proofs.YtlpkandfmbnlnaaDoorW.PrintLast Go.Proofs.YtlpkandfmbnlnaaDoorW.PrintMore
attribute [local go_sem] max2_int min2_int max_two min_two max_three min_three max_four min_four   -- for this text's walks alone
set_option linter.unusedVariables false
set_option linter.unusedSimpArgs false
open Go.Proofs.YtlpkandfmbnlnaaDoor.Q Go.Proofs.YtlpkandfmbnlnaaDoor.R
def catenarylaw09_awake.f (k : Nat)  : Option (Bool) := (conf_Begin.f k 1 2).bind fun bt190 => ((conf_Do.f k bt190.1 1 0 1 1).bind fun bt194 => ((conf_Do.f k bt194.1 2 0 2 5).bind fun bt198 => (if bt190.2 = 0 then (if bt194.2 = true then (if bt198.2 = true then (if (bt198.1.length : Int) = 1 then (if 0 < (bt198.1.length : Int) then ((conf_Text.f k ((rd_T54 bt198.1 0).f0) ((rd_T54 bt198.1 0).f1) ((rd_T54 bt198.1 0).f2) ((rd_T54 bt198.1 0).f3) ((rd_T54 bt198.1 0).f4)).bind fun t203 => (some (t203.toList == ([99, 104, 97, 105, 110, 32, 48, 32, 101, 112, 111, 99, 104, 32, 51, 58, 32, 50, 32, 43, 53] : List UInt8)))) else (none)) else (some false)) else (some false)) else (some false)) else (some false))))
set_option maxHeartbeats 8000000 in
set_option maxRecDepth 100000 in
theorem catenarylaw09_awake.calls (k : Nat)  (r : Bool) (w : World) (h : catenarylaw09_awake.f k  = some r) (hE_ : EnvP w := by first | exact HE.out | exact EnvP.drewN HE.out _ | (refine EnvP.below HE.out ?_; repeat (first | exact HB.out | (with_reducible first | apply ba_ | apply bn_ | apply bd_) | (refine be_ ?_ (Aside0.out ?_); rotate_left; assumption)))) :
  Calls Tryd.prog 24 #[] w fun e w' => e = .returned (.bool r) ∧ Below w.heap.size w w' := by
 have HE := am_ hE_
 clear hE_
 have hu24 := Tryd.underlying24
 have hu54 := Tryd.underlying54
 have HB := am_ (Below.refl w.heap.size w)
 have H : ((conf_Begin.f k 1 2).bind fun bt190 => ((conf_Do.f k bt190.1 1 0 1 1).bind fun bt194 => ((conf_Do.f k bt194.1 2 0 2 5).bind fun bt198 => (if bt190.2 = 0 then (if bt194.2 = true then (if bt198.2 = true then (if (bt198.1.length : Int) = 1 then (if 0 < (bt198.1.length : Int) then ((conf_Text.f k ((rd_T54 bt198.1 0).f0) ((rd_T54 bt198.1 0).f1) ((rd_T54 bt198.1 0).f2) ((rd_T54 bt198.1 0).f3) ((rd_T54 bt198.1 0).f4)).bind fun t203 => (some (t203.toList == ([99, 104, 97, 105, 110, 32, 48, 32, 101, 112, 111, 99, 104, 32, 51, 58, 32, 50, 32, 43, 53] : List UInt8)))) else (none)) else (some false)) else (some false)) else (some false)) else (some false))))) = some r := h
 clear h
 replace H := Option.bind_eq_some_iff.mp H
 obtain ⟨⟨t190, t191⟩, A10, H⟩ := H
 replace H : ((conf_Do.f k t190 1 0 1 1).bind fun bt194 => ((conf_Do.f k bt194.1 2 0 2 5).bind fun bt198 => (if t191 = 0 then (if bt194.2 = true then (if bt198.2 = true then (if (bt198.1.length : Int) = 1 then (if 0 < (bt198.1.length : Int) then ((conf_Text.f k ((rd_T54 bt198.1 0).f0) ((rd_T54 bt198.1 0).f1) ((rd_T54 bt198.1 0).f2) ((rd_T54 bt198.1 0).f3) ((rd_T54 bt198.1 0).f4)).bind fun t203 => (some (t203.toList == ([99, 104, 97, 105, 110, 32, 48, 32, 101, 112, 111, 99, 104, 32, 51, 58, 32, 50, 32, 43, 53] : List UInt8)))) else (none)) else (some false)) else (some false)) else (some false)) else (some false)))) = some r := H
 have A1 := am_ A10
 clear A10
 replace H := Option.bind_eq_some_iff.mp H
 obtain ⟨⟨t194, t197⟩, A20, H⟩ := H
 replace H : ((conf_Do.f k t194 2 0 2 5).bind fun bt198 => (if t191 = 0 then (if t197 = true then (if bt198.2 = true then (if (bt198.1.length : Int) = 1 then (if 0 < (bt198.1.length : Int) then ((conf_Text.f k ((rd_T54 bt198.1 0).f0) ((rd_T54 bt198.1 0).f1) ((rd_T54 bt198.1 0).f2) ((rd_T54 bt198.1 0).f3) ((rd_T54 bt198.1 0).f4)).bind fun t203 => (some (t203.toList == ([99, 104, 97, 105, 110, 32, 48, 32, 101, 112, 111, 99, 104, 32, 51, 58, 32, 50, 32, 43, 53] : List UInt8)))) else (none)) else (some false)) else (some false)) else (some false)) else (some false))) = some r := H
 have A2 := am_ A20
 clear A20
 replace H := Option.bind_eq_some_iff.mp H
 obtain ⟨⟨t198, t201⟩, A30, H⟩ := H
 replace H : (if t191 = 0 then (if t197 = true then (if t201 = true then (if (t198.length : Int) = 1 then (if 0 < (t198.length : Int) then ((conf_Text.f k ((rd_T54 t198 0).f0) ((rd_T54 t198 0).f1) ((rd_T54 t198 0).f2) ((rd_T54 t198 0).f3) ((rd_T54 t198 0).f4)).bind fun t203 => (some (t203.toList == ([99, 104, 97, 105, 110, 32, 48, 32, 101, 112, 111, 99, 104, 32, 51, 58, 32, 50, 32, 43, 53] : List UInt8)))) else (none)) else (some false)) else (some false)) else (some false)) else (some false)) = some r := H
 have A3 := am_ A30
 clear A30
 by_cases c4 : t191 = 0
 ·rw [if_pos c4] at H
  have c4b0 : (t191 == 0) = true := beq_iff_eq.mpr c4
  have c4b1 : (t191 != 0) = false := bne_eq_false_iff_eq.mpr c4
  clear c4
  by_cases c5 : t197 = true
  ·subst c5
   have H1 : (if t201 = true then (if (t198.length : Int) = 1 then (if 0 < (t198.length : Int) then ((conf_Text.f k ((rd_T54 t198 0).f0) ((rd_T54 t198 0).f1) ((rd_T54 t198 0).f2) ((rd_T54 t198 0).f3) ((rd_T54 t198 0).f4)).bind fun t203 => (some (t203.toList == ([99, 104, 97, 105, 110, 32, 48, 32, 101, 112, 111, 99, 104, 32, 51, 58, 32, 50, 32, 43, 53] : List UInt8)))) else (none)) else (some false)) else (some false)) = some r := by rw [if_pos rfl] at H; exact H
   clear H
   have H := H1
   clear H1
   by_cases c6 : t201 = true
   ·subst c6
    have H1 : (if (t198.length : Int) = 1 then (if 0 < (t198.length : Int) then ((conf_Text.f k ((rd_T54 t198 0).f0) ((rd_T54 t198 0).f1) ((rd_T54 t198 0).f2) ((rd_T54 t198 0).f3) ((rd_T54 t198 0).f4)).bind fun t203 => (some (t203.toList == ([99, 104, 97, 105, 110, 32, 48, 32, 101, 112, 111, 99, 104, 32, 51, 58, 32, 50, 32, 43, 53] : List UInt8)))) else (none)) else (some false)) = some r := by rw [if_pos rfl] at H; exact H
    clear H
    have H := H1
    clear H1
    by_cases c7 : (t198.length : Int) = 1
    ·rw [if_pos c7] at H
     have c7b0 : ((t198.length : Int) == 1) = true := beq_iff_eq.mpr c7
     have c7b1 : ((t198.length : Int) != 1) = false := bne_eq_false_iff_eq.mpr c7
     clear c7
     by_cases c8 : 0 < (t198.length : Int)
     ·rw [if_pos c8] at H
      have c8b0 : decide (0 < (t198.length : Int)) = true := decide_eq_true c8
      have c8b1 : decide (0 < t198.length) = true := decide_eq_true (by omega)
      clear c8
      replace H := Option.bind_eq_some_iff.mp H
      obtain ⟨t203, A90, H⟩ := H
      replace H : (some (t203.toList == ([99, 104, 97, 105, 110, 32, 48, 32, 101, 112, 111, 99, 104, 32, 51, 58, 32, 50, 32, 43, 53] : List UInt8))) = some r := H
      have A9 := am_ A90
      clear A90
      obtain rfl := Option.some.inj H
      go_enter Tryd.func24, Tryd.ntmps24
      go_wp2_with (first | ((with_reducible refine gate_callee (f := 61) rfl ?_); refine goesL_ (some 6) rfl rfl Tryd.func61 (by kernel_rfl) rfl #[.int .i64 1, .int .i64 2] rfl (by (try simp only [List.map_toArray, List.map_cons, List.map_nil]); first | done | rfl | (simp only [List.length_drop, lt_]; rfl)) ?_; (with_reducible refine (conf_Begin.calls k 1 2 t190 t191 _ A1.out).mono ?_); rintro e w10 ⟨v192, rfl, ho0, hb⟩; refine ⟨_, rfl, ?_⟩; have n0_ := am_ (Kd.S_lower ho0 (bs_ (by repeat (first | (with_reducible first | exact HB.out | apply ba_ | apply bn_ | apply bd_) | exact HB.out)))); have n1_ := am_ (bt_ (by repeat (first | (with_reducible first | exact HB.out | apply ba_ | apply bn_ | apply bd_) | exact HB.out)) hb); clear HB; have HO193 := n0_; have HB := n1_; clear n0_ n1_; (try clear hb); (try clear hb2); (try clear hk); (try clear hi); (try clear ho0); obtain ⟨Ao11, co11, eo11⟩ := Kd.S_slice HO193.out; subst eo11) | ((with_reducible refine gate_callee (f := 28) rfl ?_); refine goesL_ (some 12) rfl rfl Tryd.func28 (by kernel_rfl) rfl #[.slice Ao11 t190.length co11, .agg #[.int .i64 1, .int .i64 0, .int .u64 1, .int .i64 1]] rfl (by (try simp only [List.map_toArray, List.map_cons, List.map_nil]); first | done | rfl | (simp only [List.length_drop, lt_]; rfl)) ?_; (with_reducible refine (conf_Do.calls k _ _ t190 1 0 1 1 t194 true _ ?side1 ?side2 A2.out).mono ?_); (case side1 => repeat (first | exact (Kd.S_reads' HO193.out).2.2 | (with_reducible refine Kd.C_alloc ?_ _) | (with_reducible refine Kd.C_drewN ?_ _) | (with_reducible refine Kd.C_drew ?_))); (case side2 => exact (Kd.S_reads' HO193.out).2.1); rintro e w12 ⟨v195, rfl, ho0, hb⟩; refine ⟨_, rfl, ?_⟩; have n0_ := am_ (Kd.S_elder' (by (with_reducible repeat (first | apply Kd.S_alloc | apply Kd.S_drewN | apply Kd.S_drew)); exact HO193.out) (Kd.S_base ho0) hb); have n1_ := am_ (Kd.S_lower (Kd.S_new' ho0 (Kd.S_lt (by (with_reducible repeat (first | apply Kd.S_alloc | apply Kd.S_drewN | apply Kd.S_drew)); exact HO193.out))) (bs_ (by repeat (first | (with_reducible first | exact HB.out | apply ba_ | apply bn_ | apply bd_) | exact HB.out)))); have n2_ := am_ (bt_ (by repeat (first | (with_reducible first | exact HB.out | apply ba_ | apply bn_ | apply bd_) | exact HB.out)) hb); clear HO193; clear HB; have HO193 := n0_; have HO196 := n1_; have HB := n2_; clear n0_ n1_ n2_; (try clear hb); (try clear hb2); (try clear hk); (try clear hi); (try clear ho0); obtain ⟨Ao13, co13, eo13⟩ := Kd.S_slice HO196.out; subst eo13) | ((with_reducible refine gate_callee (f := 28) rfl ?_); refine goesL_ (some 18) rfl rfl Tryd.func28 (by kernel_rfl) rfl #[.slice Ao13 t194.length co13, .agg #[.int .i64 2, .int .i64 0, .int .u64 2, .int .i64 5]] rfl (by (try simp only [List.map_toArray, List.map_cons, List.map_nil]); first | done | rfl | (simp only [List.length_drop, lt_]; rfl)) ?_; (with_reducible refine (conf_Do.calls k _ _ t194 2 0 2 5 t198 true _ ?side1 ?side2 A3.out).mono ?_); (case side1 => repeat (first | exact (Kd.S_reads' HO196.out).2.2 | (with_reducible refine Kd.C_alloc ?_ _) | (with_reducible refine Kd.C_drewN ?_ _) | (with_reducible refine Kd.C_drew ?_))); (case side2 => exact (Kd.S_reads' HO196.out).2.1); rintro e w14 ⟨v199, rfl, ho0, hb⟩; refine ⟨_, rfl, ?_⟩; have n0_ := am_ (Kd.S_elder' (by (with_reducible repeat (first | apply Kd.S_alloc | apply Kd.S_drewN | apply Kd.S_drew)); exact HO193.out) (Kd.S_base ho0) hb); have n1_ := am_ (Kd.S_elder' (by (with_reducible repeat (first | apply Kd.S_alloc | apply Kd.S_drewN | apply Kd.S_drew)); exact HO196.out) (Kd.S_base ho0) hb); have n2_ := am_ (Kd.S_lower (Kd.S_new' (Kd.S_new' ho0 (Kd.S_lt (by (with_reducible repeat (first | apply Kd.S_alloc | apply Kd.S_drewN | apply Kd.S_drew)); exact HO193.out))) (Kd.S_lt (by (with_reducible repeat (first | apply Kd.S_alloc | apply Kd.S_drewN | apply Kd.S_drew)); exact HO196.out))) (bs_ (by repeat (first | (with_reducible first | exact HB.out | apply ba_ | apply bn_ | apply bd_) | exact HB.out)))); have n3_ := am_ (bt_ (by repeat (first | (with_reducible first | exact HB.out | apply ba_ | apply bn_ | apply bd_) | exact HB.out)) hb); clear HO193; clear HO196; clear HB; have HO193 := n0_; have HO196 := n1_; have HO200 := n2_; have HB := n3_; clear n0_ n1_ n2_ n3_; (try clear hb); (try clear hb2); (try clear hk); (try clear hi); (try clear ho0); obtain ⟨Ao15, co15, eo15⟩ := Kd.S_slice HO200.out; subst eo15; have p202 : 0 ≤ (0 : Int) := (by omega); have q202 : 0 < (t198.length : Int) := od_ (by first | (with_reducible assumption) | assumption); obtain ⟨ad202, A202_2, c202_2, e202, hx202_0, hx202_1, hx202_2, hx202_3, hx202_4, hl202_2, hi202_2⟩ := at_T54 (Kd.S_reads' HO200.out).2.2 0 p202 q202; cases e202; obtain ⟨ce202, hce202, hMe202, hcc202⟩ := Kd.S_get HO200.out z54 0 p202 (by first | exact q202 | exact od_ (by first | (with_reducible assumption) | assumption) | (have e_ := (Kd.S_reads' HO200.out).1; omega)); obtain ⟨ve202_2, rfl, ge202_2⟩ := k54_openM hMe202; have hv202_2 := hcc202 2 _ rfl; rw [add_field _ _ 2 (by omega)] at hv202_2; replace hv202_2 := Option.some.inj (hv202_2.symm.trans hx202_2); rw [hv202_2] at ge202_2; have HL202_2 := am_ (show Kd.R (Kd.int .i64) 3 _ _ _ _ ((rd_T54 t198 0).f2) from ge202_2); clear hv202_2 ge202_2; clear hcc202 hce202; have qi202 : (0 < t198.length) = True := eq_true (by omega); (try rw [show ((0 : Int)).toNat = 0 from rfl] at hx202_0); (try rw [show 0 * 5 = 0 from rfl] at hx202_0); (try rw [Addr.add_zero'] at hx202_0); (try rw [show ((0 : Int)).toNat = 0 from rfl] at hx202_1); (try rw [show 0 * 5 = 0 from rfl] at hx202_1); (try rw [Addr.add_zero'] at hx202_1); (try rw [show ((0 : Int)).toNat = 0 from rfl] at hx202_2); (try rw [show 0 * 5 = 0 from rfl] at hx202_2); (try rw [Addr.add_zero'] at hx202_2); (try rw [show ((0 : Int)).toNat = 0 from rfl] at hx202_3); (try rw [show 0 * 5 = 0 from rfl] at hx202_3); (try rw [Addr.add_zero'] at hx202_3); (try rw [show ((0 : Int)).toNat = 0 from rfl] at hx202_4); (try rw [show 0 * 5 = 0 from rfl] at hx202_4); (try rw [Addr.add_zero'] at hx202_4); have HR202_2 := am_ hi202_2; have HC202_2 := am_ hl202_2; clear hi202_2 hl202_2; replace p202 := eq_true p202; replace q202 := eq_true q202) | (go_at_call 40; (with_reducible refine (conf_Text.calls k ((rd_T54 t198 0).f0) ((rd_T54 t198 0).f1) _ _ ((rd_T54 t198 0).f2) ((rd_T54 t198 0).f3) ((rd_T54 t198 0).f4) t203 _ ?side1 ?side2 A9.out).mono ?_); (case side1 => repeat (first | exact (by repeat (first | (with_reducible exact HR202_2.out) | (with_reducible refine Kd.C_alloc ?_ _) | (with_reducible refine Kd.C_drewN ?_ _) | (with_reducible refine Kd.C_drew ?_) | exact HR202_2.out)) | (with_reducible refine Kd.C_alloc ?_ _) | (with_reducible refine Kd.C_drewN ?_ _) | (with_reducible refine Kd.C_drew ?_))); (case side2 => exact HC202_2.out); rintro e w16 ⟨rfl, hb⟩; have n0_ := am_ (Kd.S_below (by (with_reducible repeat (first | apply Kd.S_alloc | apply Kd.S_drewN | apply Kd.S_drew)); exact HO193.out) hb); have n1_ := am_ (Kd.S_below (by (with_reducible repeat (first | apply Kd.S_alloc | apply Kd.S_drewN | apply Kd.S_drew)); exact HO196.out) hb); have n2_ := am_ (Kd.S_below (by (with_reducible repeat (first | apply Kd.S_alloc | apply Kd.S_drewN | apply Kd.S_drew)); exact HO200.out) hb); have n3_ := am_ (Kd.R_below (by (with_reducible repeat (first | apply Kd.R_alloc | apply Kd.R_drewN | apply Kd.R_drew)); exact HL202_2.out) hb); have n4_ := am_ (Kd.C_below (by repeat (first | (with_reducible exact HR202_2.out) | (with_reducible refine Kd.C_alloc ?_ _) | (with_reducible refine Kd.C_drewN ?_ _) | (with_reducible refine Kd.C_drew ?_) | exact HR202_2.out)) hb); have n5_ := am_ (bt_ (by repeat (first | (with_reducible first | exact HB.out | apply ba_ | apply bn_ | apply bd_) | exact HB.out)) hb); clear HO193; clear HO196; clear HO200; clear HL202_2; clear HR202_2; clear HB; have HO193 := n0_; have HO196 := n1_; have HO200 := n2_; have HL202_2 := n3_; have HR202_2 := n4_; have HB := n5_; clear n0_ n1_ n2_ n3_ n4_ n5_; (try clear hb); (try clear hb2); (try clear hk); (try clear hi)))
      go_ret
      exact ⟨by first | rfl | (simp [errW_none, errW_some] <;> rfl) | (simp [*, errW_none, errW_some] <;> rfl), by repeat (first | (with_reducible first | exact HB.out | apply ba_ | apply bn_ | apply bd_) | exact HB.out)⟩
     ·rw [if_neg c8] at H
      exact absurd H (by simp)
    ·rw [if_neg c7] at H
     have c7b0 : ((t198.length : Int) == 1) = false := beq_eq_false_iff_ne.mpr c7
     have c7b1 : ((t198.length : Int) != 1) = true := bne_iff_ne.mpr c7
     obtain rfl := Option.some.inj H
     go_enter Tryd.func24, Tryd.ntmps24
     go_wp2_with (first | ((with_reducible refine gate_callee (f := 61) rfl ?_); refine goesL_ (some 6) rfl rfl Tryd.func61 (by kernel_rfl) rfl #[.int .i64 1, .int .i64 2] rfl (by (try simp only [List.map_toArray, List.map_cons, List.map_nil]); first | done | rfl | (simp only [List.length_drop, lt_]; rfl)) ?_; (with_reducible refine (conf_Begin.calls k 1 2 t190 t191 _ A1.out).mono ?_); rintro e w17 ⟨v192, rfl, ho0, hb⟩; refine ⟨_, rfl, ?_⟩; have n0_ := am_ (Kd.S_lower ho0 (bs_ (by repeat (first | (with_reducible first | exact HB.out | apply ba_ | apply bn_ | apply bd_) | exact HB.out)))); have n1_ := am_ (bt_ (by repeat (first | (with_reducible first | exact HB.out | apply ba_ | apply bn_ | apply bd_) | exact HB.out)) hb); clear HB; have HO193 := n0_; have HB := n1_; clear n0_ n1_; (try clear hb); (try clear hb2); (try clear hk); (try clear hi); (try clear ho0); obtain ⟨Ao18, co18, eo18⟩ := Kd.S_slice HO193.out; subst eo18) | ((with_reducible refine gate_callee (f := 28) rfl ?_); refine goesL_ (some 12) rfl rfl Tryd.func28 (by kernel_rfl) rfl #[.slice Ao18 t190.length co18, .agg #[.int .i64 1, .int .i64 0, .int .u64 1, .int .i64 1]] rfl (by (try simp only [List.map_toArray, List.map_cons, List.map_nil]); first | done | rfl | (simp only [List.length_drop, lt_]; rfl)) ?_; (with_reducible refine (conf_Do.calls k _ _ t190 1 0 1 1 t194 true _ ?side1 ?side2 A2.out).mono ?_); (case side1 => repeat (first | exact (Kd.S_reads' HO193.out).2.2 | (with_reducible refine Kd.C_alloc ?_ _) | (with_reducible refine Kd.C_drewN ?_ _) | (with_reducible refine Kd.C_drew ?_))); (case side2 => exact (Kd.S_reads' HO193.out).2.1); rintro e w19 ⟨v195, rfl, ho0, hb⟩; refine ⟨_, rfl, ?_⟩; have n0_ := am_ (Kd.S_elder' (by (with_reducible repeat (first | apply Kd.S_alloc | apply Kd.S_drewN | apply Kd.S_drew)); exact HO193.out) (Kd.S_base ho0) hb); have n1_ := am_ (Kd.S_lower (Kd.S_new' ho0 (Kd.S_lt (by (with_reducible repeat (first | apply Kd.S_alloc | apply Kd.S_drewN | apply Kd.S_drew)); exact HO193.out))) (bs_ (by repeat (first | (with_reducible first | exact HB.out | apply ba_ | apply bn_ | apply bd_) | exact HB.out)))); have n2_ := am_ (bt_ (by repeat (first | (with_reducible first | exact HB.out | apply ba_ | apply bn_ | apply bd_) | exact HB.out)) hb); clear HO193; clear HB; have HO193 := n0_; have HO196 := n1_; have HB := n2_; clear n0_ n1_ n2_; (try clear hb); (try clear hb2); (try clear hk); (try clear hi); (try clear ho0); obtain ⟨Ao20, co20, eo20⟩ := Kd.S_slice HO196.out; subst eo20) | ((with_reducible refine gate_callee (f := 28) rfl ?_); refine goesL_ (some 18) rfl rfl Tryd.func28 (by kernel_rfl) rfl #[.slice Ao20 t194.length co20, .agg #[.int .i64 2, .int .i64 0, .int .u64 2, .int .i64 5]] rfl (by (try simp only [List.map_toArray, List.map_cons, List.map_nil]); first | done | rfl | (simp only [List.length_drop, lt_]; rfl)) ?_; (with_reducible refine (conf_Do.calls k _ _ t194 2 0 2 5 t198 true _ ?side1 ?side2 A3.out).mono ?_); (case side1 => repeat (first | exact (Kd.S_reads' HO196.out).2.2 | (with_reducible refine Kd.C_alloc ?_ _) | (with_reducible refine Kd.C_drewN ?_ _) | (with_reducible refine Kd.C_drew ?_))); (case side2 => exact (Kd.S_reads' HO196.out).2.1); rintro e w21 ⟨v199, rfl, ho0, hb⟩; refine ⟨_, rfl, ?_⟩; have n0_ := am_ (Kd.S_elder' (by (with_reducible repeat (first | apply Kd.S_alloc | apply Kd.S_drewN | apply Kd.S_drew)); exact HO193.out) (Kd.S_base ho0) hb); have n1_ := am_ (Kd.S_elder' (by (with_reducible repeat (first | apply Kd.S_alloc | apply Kd.S_drewN | apply Kd.S_drew)); exact HO196.out) (Kd.S_base ho0) hb); have n2_ := am_ (Kd.S_lower (Kd.S_new' (Kd.S_new' ho0 (Kd.S_lt (by (with_reducible repeat (first | apply Kd.S_alloc | apply Kd.S_drewN | apply Kd.S_drew)); exact HO193.out))) (Kd.S_lt (by (with_reducible repeat (first | apply Kd.S_alloc | apply Kd.S_drewN | apply Kd.S_drew)); exact HO196.out))) (bs_ (by repeat (first | (with_reducible first | exact HB.out | apply ba_ | apply bn_ | apply bd_) | exact HB.out)))); have n3_ := am_ (bt_ (by repeat (first | (with_reducible first | exact HB.out | apply ba_ | apply bn_ | apply bd_) | exact HB.out)) hb); clear HO193; clear HO196; clear HB; have HO193 := n0_; have HO196 := n1_; have HO200 := n2_; have HB := n3_; clear n0_ n1_ n2_ n3_; (try clear hb); (try clear hb2); (try clear hk); (try clear hi); (try clear ho0); obtain ⟨Ao22, co22, eo22⟩ := Kd.S_slice HO200.out; subst eo22))
     go_ret
     exact ⟨by first | rfl | (simp [errW_none, errW_some] <;> rfl) | (simp [*, errW_none, errW_some] <;> rfl), by repeat (first | (with_reducible first | exact HB.out | apply ba_ | apply bn_ | apply bd_) | exact HB.out)⟩
   ·replace c6 := Bool.eq_false_iff.mpr c6
    subst c6
    have H1 : (some false) = some r := by rw [if_neg (show ¬ (false = true) by decide)] at H; exact H
    clear H
    have H := H1
    clear H1
    obtain rfl := Option.some.inj H
    go_enter Tryd.func24, Tryd.ntmps24
    go_wp2_with (first | ((with_reducible refine gate_callee (f := 61) rfl ?_); refine goesL_ (some 6) rfl rfl Tryd.func61 (by kernel_rfl) rfl #[.int .i64 1, .int .i64 2] rfl (by (try simp only [List.map_toArray, List.map_cons, List.map_nil]); first | done | rfl | (simp only [List.length_drop, lt_]; rfl)) ?_; (with_reducible refine (conf_Begin.calls k 1 2 t190 t191 _ A1.out).mono ?_); rintro e w23 ⟨v192, rfl, ho0, hb⟩; refine ⟨_, rfl, ?_⟩; have n0_ := am_ (Kd.S_lower ho0 (bs_ (by repeat (first | (with_reducible first | exact HB.out | apply ba_ | apply bn_ | apply bd_) | exact HB.out)))); have n1_ := am_ (bt_ (by repeat (first | (with_reducible first | exact HB.out | apply ba_ | apply bn_ | apply bd_) | exact HB.out)) hb); clear HB; have HO193 := n0_; have HB := n1_; clear n0_ n1_; (try clear hb); (try clear hb2); (try clear hk); (try clear hi); (try clear ho0); obtain ⟨Ao24, co24, eo24⟩ := Kd.S_slice HO193.out; subst eo24) | ((with_reducible refine gate_callee (f := 28) rfl ?_); refine goesL_ (some 12) rfl rfl Tryd.func28 (by kernel_rfl) rfl #[.slice Ao24 t190.length co24, .agg #[.int .i64 1, .int .i64 0, .int .u64 1, .int .i64 1]] rfl (by (try simp only [List.map_toArray, List.map_cons, List.map_nil]); first | done | rfl | (simp only [List.length_drop, lt_]; rfl)) ?_; (with_reducible refine (conf_Do.calls k _ _ t190 1 0 1 1 t194 true _ ?side1 ?side2 A2.out).mono ?_); (case side1 => repeat (first | exact (Kd.S_reads' HO193.out).2.2 | (with_reducible refine Kd.C_alloc ?_ _) | (with_reducible refine Kd.C_drewN ?_ _) | (with_reducible refine Kd.C_drew ?_))); (case side2 => exact (Kd.S_reads' HO193.out).2.1); rintro e w25 ⟨v195, rfl, ho0, hb⟩; refine ⟨_, rfl, ?_⟩; have n0_ := am_ (Kd.S_elder' (by (with_reducible repeat (first | apply Kd.S_alloc | apply Kd.S_drewN | apply Kd.S_drew)); exact HO193.out) (Kd.S_base ho0) hb); have n1_ := am_ (Kd.S_lower (Kd.S_new' ho0 (Kd.S_lt (by (with_reducible repeat (first | apply Kd.S_alloc | apply Kd.S_drewN | apply Kd.S_drew)); exact HO193.out))) (bs_ (by repeat (first | (with_reducible first | exact HB.out | apply ba_ | apply bn_ | apply bd_) | exact HB.out)))); have n2_ := am_ (bt_ (by repeat (first | (with_reducible first | exact HB.out | apply ba_ | apply bn_ | apply bd_) | exact HB.out)) hb); clear HO193; clear HB; have HO193 := n0_; have HO196 := n1_; have HB := n2_; clear n0_ n1_ n2_; (try clear hb); (try clear hb2); (try clear hk); (try clear hi); (try clear ho0); obtain ⟨Ao26, co26, eo26⟩ := Kd.S_slice HO196.out; subst eo26) | ((with_reducible refine gate_callee (f := 28) rfl ?_); refine goesL_ (some 18) rfl rfl Tryd.func28 (by kernel_rfl) rfl #[.slice Ao26 t194.length co26, .agg #[.int .i64 2, .int .i64 0, .int .u64 2, .int .i64 5]] rfl (by (try simp only [List.map_toArray, List.map_cons, List.map_nil]); first | done | rfl | (simp only [List.length_drop, lt_]; rfl)) ?_; (with_reducible refine (conf_Do.calls k _ _ t194 2 0 2 5 t198 false _ ?side1 ?side2 A3.out).mono ?_); (case side1 => repeat (first | exact (Kd.S_reads' HO196.out).2.2 | (with_reducible refine Kd.C_alloc ?_ _) | (with_reducible refine Kd.C_drewN ?_ _) | (with_reducible refine Kd.C_drew ?_))); (case side2 => exact (Kd.S_reads' HO196.out).2.1); rintro e w27 ⟨v199, rfl, ho0, hb⟩; refine ⟨_, rfl, ?_⟩; have n0_ := am_ (Kd.S_elder' (by (with_reducible repeat (first | apply Kd.S_alloc | apply Kd.S_drewN | apply Kd.S_drew)); exact HO193.out) (Kd.S_base ho0) hb); have n1_ := am_ (Kd.S_elder' (by (with_reducible repeat (first | apply Kd.S_alloc | apply Kd.S_drewN | apply Kd.S_drew)); exact HO196.out) (Kd.S_base ho0) hb); have n2_ := am_ (Kd.S_lower (Kd.S_new' (Kd.S_new' ho0 (Kd.S_lt (by (with_reducible repeat (first | apply Kd.S_alloc | apply Kd.S_drewN | apply Kd.S_drew)); exact HO193.out))) (Kd.S_lt (by (with_reducible repeat (first | apply Kd.S_alloc | apply Kd.S_drewN | apply Kd.S_drew)); exact HO196.out))) (bs_ (by repeat (first | (with_reducible first | exact HB.out | apply ba_ | apply bn_ | apply bd_) | exact HB.out)))); have n3_ := am_ (bt_ (by repeat (first | (with_reducible first | exact HB.out | apply ba_ | apply bn_ | apply bd_) | exact HB.out)) hb); clear HO193; clear HO196; clear HB; have HO193 := n0_; have HO196 := n1_; have HO200 := n2_; have HB := n3_; clear n0_ n1_ n2_ n3_; (try clear hb); (try clear hb2); (try clear hk); (try clear hi); (try clear ho0)))
    go_ret
    exact ⟨by first | rfl | (simp [errW_none, errW_some] <;> rfl) | (simp [*, errW_none, errW_some] <;> rfl), by repeat (first | (with_reducible first | exact HB.out | apply ba_ | apply bn_ | apply bd_) | exact HB.out)⟩
  ·replace c5 := Bool.eq_false_iff.mpr c5
   subst c5
   have H1 : (some false) = some r := by rw [if_neg (show ¬ (false = true) by decide)] at H; exact H
   clear H
   have H := H1
   clear H1
   obtain rfl := Option.some.inj H
   go_enter Tryd.func24, Tryd.ntmps24
   go_wp2_with (first | ((with_reducible refine gate_callee (f := 61) rfl ?_); refine goesL_ (some 6) rfl rfl Tryd.func61 (by kernel_rfl) rfl #[.int .i64 1, .int .i64 2] rfl (by (try simp only [List.map_toArray, List.map_cons, List.map_nil]); first | done | rfl | (simp only [List.length_drop, lt_]; rfl)) ?_; (with_reducible refine (conf_Begin.calls k 1 2 t190 t191 _ A1.out).mono ?_); rintro e w28 ⟨v192, rfl, ho0, hb⟩; refine ⟨_, rfl, ?_⟩; have n0_ := am_ (Kd.S_lower ho0 (bs_ (by repeat (first | (with_reducible first | exact HB.out | apply ba_ | apply bn_ | apply bd_) | exact HB.out)))); have n1_ := am_ (bt_ (by repeat (first | (with_reducible first | exact HB.out | apply ba_ | apply bn_ | apply bd_) | exact HB.out)) hb); clear HB; have HO193 := n0_; have HB := n1_; clear n0_ n1_; (try clear hb); (try clear hb2); (try clear hk); (try clear hi); (try clear ho0); obtain ⟨Ao29, co29, eo29⟩ := Kd.S_slice HO193.out; subst eo29) | ((with_reducible refine gate_callee (f := 28) rfl ?_); refine goesL_ (some 12) rfl rfl Tryd.func28 (by kernel_rfl) rfl #[.slice Ao29 t190.length co29, .agg #[.int .i64 1, .int .i64 0, .int .u64 1, .int .i64 1]] rfl (by (try simp only [List.map_toArray, List.map_cons, List.map_nil]); first | done | rfl | (simp only [List.length_drop, lt_]; rfl)) ?_; (with_reducible refine (conf_Do.calls k _ _ t190 1 0 1 1 t194 false _ ?side1 ?side2 A2.out).mono ?_); (case side1 => repeat (first | exact (Kd.S_reads' HO193.out).2.2 | (with_reducible refine Kd.C_alloc ?_ _) | (with_reducible refine Kd.C_drewN ?_ _) | (with_reducible refine Kd.C_drew ?_))); (case side2 => exact (Kd.S_reads' HO193.out).2.1); rintro e w30 ⟨v195, rfl, ho0, hb⟩; refine ⟨_, rfl, ?_⟩; have n0_ := am_ (Kd.S_elder' (by (with_reducible repeat (first | apply Kd.S_alloc | apply Kd.S_drewN | apply Kd.S_drew)); exact HO193.out) (Kd.S_base ho0) hb); have n1_ := am_ (Kd.S_lower (Kd.S_new' ho0 (Kd.S_lt (by (with_reducible repeat (first | apply Kd.S_alloc | apply Kd.S_drewN | apply Kd.S_drew)); exact HO193.out))) (bs_ (by repeat (first | (with_reducible first | exact HB.out | apply ba_ | apply bn_ | apply bd_) | exact HB.out)))); have n2_ := am_ (bt_ (by repeat (first | (with_reducible first | exact HB.out | apply ba_ | apply bn_ | apply bd_) | exact HB.out)) hb); clear HO193; clear HB; have HO193 := n0_; have HO196 := n1_; have HB := n2_; clear n0_ n1_ n2_; (try clear hb); (try clear hb2); (try clear hk); (try clear hi); (try clear ho0); obtain ⟨Ao31, co31, eo31⟩ := Kd.S_slice HO196.out; subst eo31) | ((with_reducible refine gate_callee (f := 28) rfl ?_); refine goesL_ (some 18) rfl rfl Tryd.func28 (by kernel_rfl) rfl #[.slice Ao31 t194.length co31, .agg #[.int .i64 2, .int .i64 0, .int .u64 2, .int .i64 5]] rfl (by (try simp only [List.map_toArray, List.map_cons, List.map_nil]); first | done | rfl | (simp only [List.length_drop, lt_]; rfl)) ?_; (with_reducible refine (conf_Do.calls k _ _ t194 2 0 2 5 t198 t201 _ ?side1 ?side2 A3.out).mono ?_); (case side1 => repeat (first | exact (Kd.S_reads' HO196.out).2.2 | (with_reducible refine Kd.C_alloc ?_ _) | (with_reducible refine Kd.C_drewN ?_ _) | (with_reducible refine Kd.C_drew ?_))); (case side2 => exact (Kd.S_reads' HO196.out).2.1); rintro e w32 ⟨v199, rfl, ho0, hb⟩; refine ⟨_, rfl, ?_⟩; have n0_ := am_ (Kd.S_elder' (by (with_reducible repeat (first | apply Kd.S_alloc | apply Kd.S_drewN | apply Kd.S_drew)); exact HO193.out) (Kd.S_base ho0) hb); have n1_ := am_ (Kd.S_elder' (by (with_reducible repeat (first | apply Kd.S_alloc | apply Kd.S_drewN | apply Kd.S_drew)); exact HO196.out) (Kd.S_base ho0) hb); have n2_ := am_ (Kd.S_lower (Kd.S_new' (Kd.S_new' ho0 (Kd.S_lt (by (with_reducible repeat (first | apply Kd.S_alloc | apply Kd.S_drewN | apply Kd.S_drew)); exact HO193.out))) (Kd.S_lt (by (with_reducible repeat (first | apply Kd.S_alloc | apply Kd.S_drewN | apply Kd.S_drew)); exact HO196.out))) (bs_ (by repeat (first | (with_reducible first | exact HB.out | apply ba_ | apply bn_ | apply bd_) | exact HB.out)))); have n3_ := am_ (bt_ (by repeat (first | (with_reducible first | exact HB.out | apply ba_ | apply bn_ | apply bd_) | exact HB.out)) hb); clear HO193; clear HO196; clear HB; have HO193 := n0_; have HO196 := n1_; have HO200 := n2_; have HB := n3_; clear n0_ n1_ n2_ n3_; (try clear hb); (try clear hb2); (try clear hk); (try clear hi); (try clear ho0)))
   go_ret
   exact ⟨by first | rfl | (simp [errW_none, errW_some] <;> rfl) | (simp [*, errW_none, errW_some] <;> rfl), by repeat (first | (with_reducible first | exact HB.out | apply ba_ | apply bn_ | apply bd_) | exact HB.out)⟩
 ·rw [if_neg c4] at H
  have c4b0 : (t191 == 0) = false := beq_eq_false_iff_ne.mpr c4
  have c4b1 : (t191 != 0) = true := bne_iff_ne.mpr c4
  obtain rfl := Option.some.inj H
  go_enter Tryd.func24, Tryd.ntmps24
  go_wp2_with (first | ((with_reducible refine gate_callee (f := 61) rfl ?_); refine goesL_ (some 6) rfl rfl Tryd.func61 (by kernel_rfl) rfl #[.int .i64 1, .int .i64 2] rfl (by (try simp only [List.map_toArray, List.map_cons, List.map_nil]); first | done | rfl | (simp only [List.length_drop, lt_]; rfl)) ?_; (with_reducible refine (conf_Begin.calls k 1 2 t190 t191 _ A1.out).mono ?_); rintro e w33 ⟨v192, rfl, ho0, hb⟩; refine ⟨_, rfl, ?_⟩; have n0_ := am_ (Kd.S_lower ho0 (bs_ (by repeat (first | (with_reducible first | exact HB.out | apply ba_ | apply bn_ | apply bd_) | exact HB.out)))); have n1_ := am_ (bt_ (by repeat (first | (with_reducible first | exact HB.out | apply ba_ | apply bn_ | apply bd_) | exact HB.out)) hb); clear HB; have HO193 := n0_; have HB := n1_; clear n0_ n1_; (try clear hb); (try clear hb2); (try clear hk); (try clear hi); (try clear ho0); obtain ⟨Ao34, co34, eo34⟩ := Kd.S_slice HO193.out; subst eo34) | ((with_reducible refine gate_callee (f := 28) rfl ?_); refine goesL_ (some 12) rfl rfl Tryd.func28 (by kernel_rfl) rfl #[.slice Ao34 t190.length co34, .agg #[.int .i64 1, .int .i64 0, .int .u64 1, .int .i64 1]] rfl (by (try simp only [List.map_toArray, List.map_cons, List.map_nil]); first | done | rfl | (simp only [List.length_drop, lt_]; rfl)) ?_; (with_reducible refine (conf_Do.calls k _ _ t190 1 0 1 1 t194 t197 _ ?side1 ?side2 A2.out).mono ?_); (case side1 => repeat (first | exact (Kd.S_reads' HO193.out).2.2 | (with_reducible refine Kd.C_alloc ?_ _) | (with_reducible refine Kd.C_drewN ?_ _) | (with_reducible refine Kd.C_drew ?_))); (case side2 => exact (Kd.S_reads' HO193.out).2.1); rintro e w35 ⟨v195, rfl, ho0, hb⟩; refine ⟨_, rfl, ?_⟩; have n0_ := am_ (Kd.S_elder' (by (with_reducible repeat (first | apply Kd.S_alloc | apply Kd.S_drewN | apply Kd.S_drew)); exact HO193.out) (Kd.S_base ho0) hb); have n1_ := am_ (Kd.S_lower (Kd.S_new' ho0 (Kd.S_lt (by (with_reducible repeat (first | apply Kd.S_alloc | apply Kd.S_drewN | apply Kd.S_drew)); exact HO193.out))) (bs_ (by repeat (first | (with_reducible first | exact HB.out | apply ba_ | apply bn_ | apply bd_) | exact HB.out)))); have n2_ := am_ (bt_ (by repeat (first | (with_reducible first | exact HB.out | apply ba_ | apply bn_ | apply bd_) | exact HB.out)) hb); clear HO193; clear HB; have HO193 := n0_; have HO196 := n1_; have HB := n2_; clear n0_ n1_ n2_; (try clear hb); (try clear hb2); (try clear hk); (try clear hi); (try clear ho0); obtain ⟨Ao36, co36, eo36⟩ := Kd.S_slice HO196.out; subst eo36) | ((with_reducible refine gate_callee (f := 28) rfl ?_); refine goesL_ (some 18) rfl rfl Tryd.func28 (by kernel_rfl) rfl #[.slice Ao36 t194.length co36, .agg #[.int .i64 2, .int .i64 0, .int .u64 2, .int .i64 5]] rfl (by (try simp only [List.map_toArray, List.map_cons, List.map_nil]); first | done | rfl | (simp only [List.length_drop, lt_]; rfl)) ?_; (with_reducible refine (conf_Do.calls k _ _ t194 2 0 2 5 t198 t201 _ ?side1 ?side2 A3.out).mono ?_); (case side1 => repeat (first | exact (Kd.S_reads' HO196.out).2.2 | (with_reducible refine Kd.C_alloc ?_ _) | (with_reducible refine Kd.C_drewN ?_ _) | (with_reducible refine Kd.C_drew ?_))); (case side2 => exact (Kd.S_reads' HO196.out).2.1); rintro e w37 ⟨v199, rfl, ho0, hb⟩; refine ⟨_, rfl, ?_⟩; have n0_ := am_ (Kd.S_elder' (by (with_reducible repeat (first | apply Kd.S_alloc | apply Kd.S_drewN | apply Kd.S_drew)); exact HO193.out) (Kd.S_base ho0) hb); have n1_ := am_ (Kd.S_elder' (by (with_reducible repeat (first | apply Kd.S_alloc | apply Kd.S_drewN | apply Kd.S_drew)); exact HO196.out) (Kd.S_base ho0) hb); have n2_ := am_ (Kd.S_lower (Kd.S_new' (Kd.S_new' ho0 (Kd.S_lt (by (with_reducible repeat (first | apply Kd.S_alloc | apply Kd.S_drewN | apply Kd.S_drew)); exact HO193.out))) (Kd.S_lt (by (with_reducible repeat (first | apply Kd.S_alloc | apply Kd.S_drewN | apply Kd.S_drew)); exact HO196.out))) (bs_ (by repeat (first | (with_reducible first | exact HB.out | apply ba_ | apply bn_ | apply bd_) | exact HB.out)))); have n3_ := am_ (bt_ (by repeat (first | (with_reducible first | exact HB.out | apply ba_ | apply bn_ | apply bd_) | exact HB.out)) hb); clear HO193; clear HO196; clear HB; have HO193 := n0_; have HO196 := n1_; have HO200 := n2_; have HB := n3_; clear n0_ n1_ n2_ n3_; (try clear hb); (try clear hb2); (try clear hk); (try clear hi); (try clear ho0)))
  go_ret
  exact ⟨by first | rfl | (simp [errW_none, errW_some] <;> rfl) | (simp [*, errW_none, errW_some] <;> rfl), by repeat (first | (with_reducible first | exact HB.out | apply ba_ | apply bn_ | apply bd_) | exact HB.out)⟩
end Go.Proofs.YtlpkandfmbnlnaaDoor.Q
end
