/- What the laid variables and the world's shape give: Txt.Env. And the wrap of a row with laid variables that hands the shape on. -/
import Derived.Test.YtlpkandfmbnlnaaDoorEnv
import Derived.Test.YtlpkandfmbnlnaaDoorRows
import Derived.OpenShut
import Derived.ChangeArms
import Derived.ChangeSame
import Derived.ChangeShapes
import Derived.LaidLaws
import Derived.LaidMore
import Derived.Lay
import Derived.HandedShaped
import Derived.Shelf.Vars
import Derived.SizedLaws
import Derived.JoinedOf
import Derived.ProofKit
import Derived.Stop.Joined
set_option linter.unusedVariables false
set_option linter.unusedSimpArgs false
set_option maxRecDepth 100000
namespace Go.Proofs.YtlpkandfmbnlnaaDoor.Laid
open Go Go.RowKit Go.ChangeShapes

theorem cs_of_arr {H : Type} {enc : TypeId × Value → H} {P : Program} {W : World} {base : Nat} {sp : Nat → Bool} {held : Bool} {ta te n fuel : Nat} {cs : List Value} {ds : List (DataW H)} {p : List MemPlace} (g : DataW H → Value)
    (ht : P.underlying ta = some (.array n te)) (hc : P.cellsOf te = 1) (hca : P.cellsOf ta = n)
    (ho : ∀ (m : Nat) (c : List Value) (x : DataW H × List MemPlace), DataW.trod enc P W base sp held m te c = some x → c = [g x.1])
    (h : DataW.trod enc P W base sp held fuel ta cs = some (.agg ds, p)) : cs = ds.map g := by
  obtain ⟨xs, m, _, ex, hl, hn, hel⟩ := DataW.trod_array ht h
  obtain ⟨ex, _⟩ := Prod.mk.inj ex
  have ex := DataW.agg.inj ex
  subst ex
  rw [hca] at hl
  apply List.ext_getElem
  · simp [hl, hn]
  · intro i h1 h2
    have hi : i < n := by omega
    have e := hel i hi
    rw [hc, Nat.mul_one, List.getElem?_eq_getElem (by omega)] at e
    have e2 := ho _ _ _ e
    have e3 : (cs.drop i).take 1 = [cs[i]] := by rw [List.drop_eq_getElem_cons h1]; rfl
    rw [e3] at e2
    have := (List.cons.inj e2).1
    rw [this]
    simp

def gInt (k : IntKind) {H : Type} : DataW H → Value
  | .lit (.int _ n) => .int k n
  | _ => .int k 0
def gStr {H : Type} : DataW H → Value
  | .lit (.string s) => .string ⟨s.toArray⟩
  | _ => .string ⟨#[]⟩

theorem ho_int {H : Type} {enc : TypeId × Value → H} {P : Program} {W : World} {base : Nat} {sp : Nat → Bool} {held : Bool} {te : Nat} {k : IntKind} (hu : P.underlying te = some (.int k)) (m : Nat) (c : List Value) (x : DataW H × List MemPlace)
    (h : DataW.trod enc P W base sp held m te c = some x) : c = [gInt k x.1] := by
  obtain ⟨n, rfl, rfl, _⟩ := DataW.trod_int hu h
  rfl
theorem ho_str {H : Type} {enc : TypeId × Value → H} {P : Program} {W : World} {base : Nat} {sp : Nat → Bool} {held : Bool} {te : Nat} (hu : P.underlying te = some .string) (m : Nat) (c : List Value) (x : DataW H × List MemPlace)
    (h : DataW.trod enc P W base sp held m te c = some x) : c = [gStr x.1] := by
  obtain ⟨s, rfl, rfl, _⟩ := DataW.trod_string hu h
  rfl

theorem iface_of {H : Type} {enc : TypeId × Value → H} {P : Program} {W : World} {base : Nat} {sp : Nat → Bool} {ti fuel : Nat} {ms : Array (String × TypeId)} {cs : List Value} {nm : String} {d : DataW H} {p : List MemPlace}
    (ht : P.underlying ti = some (.interface ms)) (h : DataW.trod enc P W base sp false fuel ti cs = some (.iface nm d, p)) : ∃ u v, cs = [.iface u v] := by
  obtain ⟨_, u, v, e, _, _⟩ := iface_of_trod ht h
  exact ⟨u, v, e⟩

abbrev laid8 : List (String × DataW Unit) := Rows.cmdsParsesRow.laid

theorem env_of {W : World} (h : laidMetH Tryd.prog laid8 W) (hsh : W.ShapedOpen Tryd.prog) : Txt.Env W := by
  rw [MakeChecks.laidMetH_plain _ _ _ (by kernel_rfl)] at h
  obtain ⟨ps, ⟨g0, t0, cs0, f0, p0, q0, hg0, ht0, hv0, hd0, ⟨g1, t1, cs1, f1, p1, q1, hg1, ht1, hv1, hd1, ⟨g2, t2, cs2, f2, p2, q2, hg2, ht2, hv2, hd2, ⟨g3, t3, cs3, f3, p3, q3, hg3, ht3, hv3, hd3, ⟨g4, t4, cs4, f4, p4, q4, hg4, ht4, hv4, hd4, ⟨g5, t5, cs5, f5, p5, q5, hg5, ht5, hv5, hd5, ⟨g6, t6, cs6, f6, p6, q6, hg6, ht6, hv6, hd6, _, _⟩, _⟩, _⟩, _⟩, _⟩, _⟩, _⟩, _, _⟩ := h
  refine ⟨?_, ?_, ?_, ?_⟩
  · obtain rfl := Option.some.inj (Txt.gNames.symm.trans hg6)
    obtain rfl := Option.some.inj ((show (Tryd.prog.globals[0]?).map (·.type) = some 81 by kernel_rfl).symm.trans ht6)
    have := cs_of_arr gStr Tryd.underlying81 (by kernel_rfl) (by kernel_rfl) (ho_str Tryd.underlying9) hd6
    rw [hv6]
    obtain ⟨l⟩ := cs6
    obtain rfl : l = _ := this
    rfl
  · obtain rfl := Option.some.inj (Txt.gPow.symm.trans hg2)
    obtain rfl := Option.some.inj ((show (Tryd.prog.globals[1]?).map (·.type) = some 161 by kernel_rfl).symm.trans ht2)
    have := cs_of_arr (gInt .u64) Tryd.underlying161 (by kernel_rfl) (by kernel_rfl) (ho_int Tryd.underlying22) hd2
    unfold Lib.TabIs
    rw [hv2]
    obtain ⟨l⟩ := cs2
    obtain rfl : l = _ := this
    rfl
  · obtain rfl := Option.some.inj (Txt.gRange.symm.trans hg4)
    obtain rfl := Option.some.inj ((show (Tryd.prog.globals[3]?).map (·.type) = some 102 by kernel_rfl).symm.trans ht4)
    obtain ⟨u, v, e⟩ := iface_of Tryd.underlying102 hd4
    refine ⟨u, v, ?_⟩
    rw [hv4]
    obtain ⟨l⟩ := cs4
    obtain rfl : l = _ := e
    rfl
  · exact Go.Proofs.cell_of_shapedOpen_int (zero := #[.int .i64 0]) (t := 3) hsh (of_decide_eq_true (by kernel_rfl)) (by kernel_rfl) rfl (by kernel_rfl) (by kernel_rfl) Tryd.underlying3

/-- The wrap: laid variables, the reach, the shape. -/
theorem returnsInHanded_laid {H : Type} {enc : TypeId × Value → H} {a : Assume} {C : Checked} {os : Os} {f : FuncId} {fn : Func} {s : ChangeSpec} {conds : List PathCond} {laid : List (String × DataW Unit)} {apart fresh handsOn again : Bool}
    (own : ownKnob C.prog.godebug = none) (started : os.Started) (noInit : C.prog.inits.idxOf? f = none) (hfn : C.prog.funcs[f]? = some fn)
    (witness : ∃ (w : World) (tape : Tape) (i : Input), w.os = os ∧ (w.forCall tape i).Shaped C.prog ∧ i.vars = [] ∧ Input.okWide C.prog (w.forCall tape i) .any w.heap.size f i ∧
      ((s.pre enc C.prog fn conds apart (w.forCall tape i).memory i.args ∧ laidMetH C.prog laid (w.forCall tape i).memory) ∧ sizedMet enc C.prog fn (OpenSpec.ofChange s) apart (w.forCall tape i).memory i.args) ∧ a.holds C.prog (lone (Frame.enter C.prog f i.args .normal) [] (w.forCall tape i)))
    (contract : ∀ (W : World) (base : Nat) (args : Array Value) (ds gs : List (DataW H)) (before : List MemPlace),
      (∀ (j : Nat) t v, fn.params[j]? = some t → args[j]? = some v → Value.okWide C.prog W .any base t v) →
      DataW.Whole enc C.prog fn.params.toList s.vars apart W args.toList ds gs before →
      conds.all (PathCond.test C.prog ⟨fn.params.toList, ds, s.plain.varTypes C.prog, gs⟩) = true →
      (DataW.weightsEach C.prog (fn.params.toList ++ s.plain.varTypes C.prog) (ds ++ gs)).all (· ≤ reachBytes) = true →
      laidMetH C.prog laid W → W.ShapedOpen C.prog →
      a.holds C.prog (lone (Frame.enter C.prog f args .normal) [] W) →
      Calls C.prog f args W fun e W' => ∃ v, e = .returned v ∧ s.post enc C.prog fn apart fresh handsOn again W args v W') :
    ReturnsInHanded a C os f .any (fun w args => (s.pre enc C.prog fn conds apart w args ∧ laidMetH C.prog laid w) ∧ sizedMet enc C.prog fn (OpenSpec.ofChange s) apart w args) (s.post enc C.prog fn apart fresh handsOn again) := by
  refine returnsInHanded_of_calls own started noInit witness ?_
  intro w tape i _ hsh _ hok hpre hholds
  obtain ⟨_, _, _, fn', hfn', _, _, _, _, hval⟩ := hok
  have e : fn' = fn := Option.some.inj (hfn'.symm.trans hfn)
  subst e
  obtain ⟨⟨⟨ds, gs, before, hw, hc⟩, hl⟩, hz⟩ := hpre
  have hw' := DataW.Whole.of_heap (w' := w.forCall tape i) (by rfl) hw
  refine (contract (w.forCall tape i) w.heap.size i.args ds gs before hval hw' hc (hz.weights hw) (laidMetH.of_heap (by rfl) (show laidMetH C.prog laid (w.forCall tape i).memory from hl)) hsh hholds).mono fun e W' ⟨v, he, hp⟩ => ?_
  subst he
  exact ChangeSpec.post_blind hp
theorem cmd_cells : Tryd.prog.cellsOf 24 = 4 := by kernel_rfl
theorem int_cells : Tryd.prog.cellsOf 3 = 1 := by kernel_rfl
theorem u64_cells : Tryd.prog.cellsOf 22 = 1 := by kernel_rfl
section
variable {H : Type} {enc : TypeId × Value → H} {W : World} {base : Nat} {sp : Nat → Bool} {held : Bool}
theorem cells_cmd {fuel : Nat} {cs : List Value} {d : DataW H} {p : List MemPlace} (h : DataW.trod enc Tryd.prog W base sp held fuel 24 cs = some (d, p)) :
    ∃ x0 x1 x2 x3, cs = [.int .i64 x0, .int .i64 x1, .int .u64 x2, .int .i64 x3] ∧ d = .agg [.lit (.int .i64 x0), .lit (.int .i64 x1), .lit (.int .u64 x2), .lit (.int .i64 x3)] ∧ p = [] ∧
      (Lit.int .i64 x0).wf = true ∧ (Lit.int .i64 x1).wf = true ∧ (Lit.int .u64 x2).wf = true ∧ (Lit.int .i64 x3).wf = true := by
  obtain ⟨xs, n, _, ex, hl, hn, hel⟩ := DataW.trod_struct Tryd.underlying24 h
  rw [cmd_cells] at hl
  match cs, hl, hel with
  | [c0, c1, c2, c3], _, hel =>
    match xs, hn with
    | [y0, y1, y2, y3], _ =>
      have h0 : DataW.trod enc Tryd.prog W base sp held n 3 (([c0, c1, c2, c3].drop 0).take (Tryd.prog.cellsOf 3)) = some y0 := hel 0 _ rfl
      have h1 : DataW.trod enc Tryd.prog W base sp held n 3 (([c0, c1, c2, c3].drop 1).take (Tryd.prog.cellsOf 3)) = some y1 := hel 1 _ rfl
      have h2 : DataW.trod enc Tryd.prog W base sp held n 22 (([c0, c1, c2, c3].drop 2).take (Tryd.prog.cellsOf 22)) = some y2 := hel 2 _ rfl
      have h3 : DataW.trod enc Tryd.prog W base sp held n 3 (([c0, c1, c2, c3].drop 3).take (Tryd.prog.cellsOf 3)) = some y3 := hel 3 _ rfl
      obtain ⟨x0, e0, f0, w0⟩ := DataW.trod_int Tryd.underlying3 h0
      obtain ⟨x1, e1, f1, w1⟩ := DataW.trod_int Tryd.underlying3 h1
      obtain ⟨x2, e2, f2, w2⟩ := DataW.trod_int Tryd.underlying22 h2
      obtain ⟨x3, e3, f3, w3⟩ := DataW.trod_int Tryd.underlying3 h3
      rw [int_cells] at e0 e1 e3
      rw [u64_cells] at e2
      obtain rfl : c0 = _ := (List.cons.inj e0).1
      obtain rfl : c1 = _ := (List.cons.inj e1).1
      obtain rfl : c2 = _ := (List.cons.inj e2).1
      obtain rfl : c3 = _ := (List.cons.inj e3).1
      subst f0 f1 f2 f3
      obtain ⟨rfl, rfl⟩ := Prod.mk.inj ex
      exact ⟨x0, x1, x2, x3, rfl, rfl, rfl, w0, w1, w2, w3⟩
theorem open_cmd {v : Value} {d : DataW H} {p : List MemPlace} (h : DataW.Trod enc Tryd.prog W base sp held 24 v d p) :
    ∃ x0 x1 x2 x3, v = .agg #[.int .i64 x0, .int .i64 x1, .int .u64 x2, .int .i64 x3] ∧ d = .agg [.lit (.int .i64 x0), .lit (.int .i64 x1), .lit (.int .u64 x2), .lit (.int .i64 x3)] ∧ p = [] ∧
      (Lit.int .i64 x0).wf = true ∧ (Lit.int .i64 x1).wf = true ∧ (Lit.int .u64 x2).wf = true ∧ (Lit.int .i64 x3).wf = true := by
  obtain ⟨fuel, h⟩ := h
  obtain ⟨x0, x1, x2, x3, e, rest⟩ := cells_cmd h
  refine ⟨x0, x1, x2, x3, ?_, rest⟩
  cases v with
  | agg cs =>
    obtain ⟨l⟩ := cs
    have e : l = _ := e
    rw [e]
  | _ => simp [Value.cells] at e
theorem shut_cmd {x0 x1 x2 x3 : Int} (w0 : (Lit.int .i64 x0).wf = true) (w1 : (Lit.int .i64 x1).wf = true) (w2 : (Lit.int .u64 x2).wf = true) (w3 : (Lit.int .i64 x3).wf = true) :
    DataW.Trod enc Tryd.prog W base sp held 24 (.agg #[.int .i64 x0, .int .i64 x1, .int .u64 x2, .int .i64 x3]) (.agg [.lit (.int .i64 x0), .lit (.int .i64 x1), .lit (.int .u64 x2), .lit (.int .i64 x3)]) [] := by
  refine ⟨2, ?_⟩
  have := trod_struct_mk (enc := enc) (w := W) (base := base) (spare := sp) (held := held) (n := 1) (cs := [.int .i64 x0, .int .i64 x1, .int .u64 x2, .int .i64 x3])
    (xs := [(.lit (.int .i64 x0), []), (.lit (.int .i64 x1), []), (.lit (.int .u64 x2), []), (.lit (.int .i64 x3), [])]) Tryd.underlying24 (by rw [cmd_cells]; rfl) (by
      simp only [List.mapM_cons, List.mapM_nil]
      rw [int_cells, u64_cells]
      simp only [List.drop_zero, List.drop_succ_cons, List.take_succ_cons, List.take_zero]
      rw [trod_int_mk 0 Tryd.underlying3 w0, trod_int_mk 0 Tryd.underlying3 w1, trod_int_mk 0 Tryd.underlying22 w2, trod_int_mk 0 Tryd.underlying3 w3]
      rfl)
  exact this
end
end Go.Proofs.YtlpkandfmbnlnaaDoor.Laid
