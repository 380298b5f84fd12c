/- Commands: what they are; cmds.Check and the chapter's Check. -/
import Derived.Test.YtlpkandfmbnlnaaDoorRows
import Derived.Test.YtlpkandfmbnlnaaDoorApp
import Derived.Laws.StructEq
import Derived.WalkKit
import Derived.KernelRfl
import Derived.Lib.Hide
set_option linter.unusedVariables false
set_option linter.unusedSimpArgs false
set_option maxRecDepth 100000
namespace Go.Proofs.YtlpkandfmbnlnaaDoor.Cmd
open Go Go.RowKit Go.Proofs.YtlpkandfmbnlnaaDoor.Mem

/-! ### '==' of structs -/
section
variable {P : Program} {d : Nat} {xs ys : Array Value} {f : Field} {fs : List Field} {a b : Value} {r s : Bool} {w : World}
theorem eq_last (hn : (f.name == "_") = false) (ha : (part f.type xs f.offset).run P w = .ok a w) (hb : (part f.type ys f.offset).run P w = .ok b w) (he : (Op.equalIn d f.type a b).run P w = .ok r w) : (Op.eqFields d xs ys [f]).run P w = .ok r w := by
  have hn' : f.name ≠ "_" := by simpa using hn
  simp only [Op.eqFields, if_pos hn', Sem.run_bind, ha, hb, he, Result.andThen_ok]
  cases r <;> simp
theorem eq_cons (hn : (f.name == "_") = false) (ha : (part f.type xs f.offset).run P w = .ok a w) (hb : (part f.type ys f.offset).run P w = .ok b w) (he : (Op.equalIn d f.type a b).run P w = .ok r w) (hr : (Op.eqFields d xs ys fs).run P w = .ok s w) : (Op.eqFields d xs ys (f :: fs)).run P w = .ok (r && s) w := by
  have hn' : f.name ≠ "_" := by simpa using hn
  rw [Op.eqFields]
  simp only [if_pos hn', Sem.run_bind, ha, hb, he, Result.andThen_ok]
  cases r
  · simp
  · simpa using hr
theorem eq_struct {t : TypeId} {fs : Array Field} (hu : P.underlying t = some (.struct fs)) (hp : P.stoodInHeld t = false) (h : (Op.eqFields d xs ys fs.toList).run P w = .ok r w) : (Op.equalIn (d + 1) t (.agg xs) (.agg ys)).run P w = .ok r w := by
  have hf : P.fieldsOf t = fs := by simp [Program.fieldsOf, hu]
  rw [run_equalIn_struct (P := P) w d t xs ys (by rw [hf]; exact hu) hp, hf]
  exact h
end

/-! ### Commands -/
structure C where
  kind : Int
  chain : Int
  ep : Int
  node : Int
deriving DecidableEq
def C.cells (c : C) : Array Value := #[.int .i64 c.kind, .int .i64 c.chain, .int .u64 c.ep, .int .i64 c.node]
def C.v (c : C) : Value := .agg #[.int .i64 c.kind, .int .i64 c.chain, .int .u64 c.ep, .int .i64 c.node]
def C.zero : C := ⟨0, 0, 0, 0⟩
/-- Which commands may be. -/
def chk (c : C) : Int :=
  if c.kind < 0 ∨ c.kind ≥ 5 then 1
  else if c.kind = 0 then (if c.chain = 0 ∧ c.ep = 0 ∧ c.node = 0 then 0 else 4)
  else if c.chain < 0 ∨ c.chain ≥ 4 ∨ c.ep < 1 ∨ c.node < 1 ∨ c.node > 24 then 4 else 0

theorem eqC (d : Nat) (w : World) (a b : C) : (Op.equalIn (d + 2) 24 a.v b.v).run Tryd.prog w = .ok (a.kind == b.kind && (a.chain == b.chain && (a.ep == b.ep && (a.node == b.node)))) w := by
  refine eq_struct Tryd.underlying24 (by kernel_rfl) ?_
  refine eq_cons (by rfl) (by go_simp; rfl) (by go_simp; rfl) (by go_simp) ?_
  refine eq_cons (by rfl) (by go_simp; rfl) (by go_simp; rfl) (by go_simp) ?_
  refine eq_cons (by rfl) (by go_simp; rfl) (by go_simp; rfl) (by go_simp) ?_
  exact eq_last (by rfl) (by go_simp; rfl) (by go_simp; rfl) (by go_simp)
theorem eqC_dec (a b : C) : (a.kind == b.kind && (a.chain == b.chain && (a.ep == b.ep && (a.node == b.node)))) = decide (a = b) := by
  obtain ⟨a1, a2, a3, a4⟩ := a
  obtain ⟨b1, b2, b3, b4⟩ := b
  by_cases h1 : a1 = b1 <;> by_cases h2 : a2 = b2 <;> by_cases h3 : a3 = b3 <;> by_cases h4 : a4 = b4 <;> simp [h1, h2, h3, h4]
/-- cmds.Check. -/
theorem check_any (c : C) (w : World) : Calls Tryd.prog 12 #[c.v] w fun e w' => e = .returned (.int .i64 (chk c)) ∧ w.alloc (.cells c.cells 24) = w' := by
  obtain ⟨K, H, E, N⟩ := c
  unfold C.v C.cells
  simp only
  by_cases h1 : K < 0
  · have hr : chk ⟨K, H, E, N⟩ = 1 := if_pos (.inl h1)
    rw [hr]
    have b1 : decide (K < 0) = true := by simp [h1]
    clear hr
    go_enter Tryd.func12, Tryd.ntmps12
    go_wp2_with fail
    go_ret
    exact ⟨rfl, rfl⟩
  have b1 : decide (K < 0) = false := by simp; omega
  by_cases h2 : K ≥ 5
  · have hr : chk ⟨K, H, E, N⟩ = 1 := if_pos (.inr h2)
    rw [hr]
    have b2 : decide (K ≥ 5) = true := by simp; omega
    clear hr
    go_enter Tryd.func12, Tryd.ntmps12
    go_wp2_with fail
    go_ret
    exact ⟨rfl, rfl⟩
  have b2 : decide (K ≥ 5) = false := by simp; omega
  by_cases h3 : K = 0
  · subst h3
    have hz : chk ⟨0, H, E, N⟩ = if H = 0 ∧ E = 0 ∧ N = 0 then 0 else 4 := by unfold chk; rw [if_neg (by simp), if_pos rfl]
    by_cases h4 : H = 0
    · by_cases h5 : E = 0
      · by_cases h6 : N = 0
        · rw [hz, if_pos ⟨h4, h5, h6⟩]
          subst h4 h5 h6
          clear hz
          go_enter Tryd.func12, Tryd.ntmps12
          go_wp2_with fail
          go_ret
          exact ⟨rfl, rfl⟩
        · rw [hz, if_neg (by omega)]
          subst h4 h5
          clear hz
          go_enter Tryd.func12, Tryd.ntmps12
          go_wp2_with fail
          go_ret
          exact ⟨rfl, rfl⟩
      · rw [hz, if_neg (by omega)]
        subst h4
        clear hz
        go_enter Tryd.func12, Tryd.ntmps12
        go_wp2_with fail
        go_ret
        exact ⟨rfl, rfl⟩
    · rw [hz, if_neg (by omega)]
      clear hz
      go_enter Tryd.func12, Tryd.ntmps12
      go_wp2_with fail
      go_ret
      exact ⟨rfl, rfl⟩
  have b3 : (K == 0) = false := by simp [h3]
  have hs : chk ⟨K, H, E, N⟩ = if H < 0 ∨ H ≥ 4 ∨ E < 1 ∨ N < 1 ∨ N > 24 then 4 else 0 := by unfold chk; rw [if_neg (by simp only; omega), if_neg h3]
  by_cases h4 : H < 0
  · rw [hs, if_pos (by omega)]
    have b4 : decide (H < 0) = true := by simp [h4]
    clear hs h1 h2 h3
    go_enter Tryd.func12, Tryd.ntmps12
    go_wp2_with fail
    go_ret
    exact ⟨rfl, rfl⟩
  have b4 : decide (H < 0) = false := by simp; omega
  by_cases h5 : H ≥ 4
  · rw [hs, if_pos (by omega)]
    have b5 : decide (H ≥ 4) = true := by simp; omega
    clear hs h1 h2 h3
    go_enter Tryd.func12, Tryd.ntmps12
    go_wp2_with fail
    go_ret
    exact ⟨rfl, rfl⟩
  have b5 : decide (H ≥ 4) = false := by simp; omega
  by_cases h6 : E < 1
  · rw [hs, if_pos (by omega)]
    have b6 : decide (E < 1) = true := by simp [h6]
    clear hs h1 h2 h3
    go_enter Tryd.func12, Tryd.ntmps12
    go_wp2_with fail
    go_ret
    exact ⟨rfl, rfl⟩
  have b6 : decide (E < 1) = false := by simp; omega
  by_cases h7 : N < 1
  · rw [hs, if_pos (by omega)]
    have b7 : decide (N < 1) = true := by simp [h7]
    clear hs h1 h2 h3
    go_enter Tryd.func12, Tryd.ntmps12
    go_wp2_with fail
    go_ret
    exact ⟨rfl, rfl⟩
  have b7 : decide (N < 1) = false := by simp; omega
  by_cases h8 : N > 24
  · rw [hs, if_pos (by omega)]
    have b8 : decide (N > 24) = true := by simp [h8]
    clear hs h1 h2 h3
    go_enter Tryd.func12, Tryd.ntmps12
    go_wp2_with fail
    go_ret
    exact ⟨rfl, rfl⟩
  have b8 : decide (N > 24) = false := by simp; omega
  rw [hs, if_neg (by omega)]
  clear hs h1 h2 h3
  go_enter Tryd.func12, Tryd.ntmps12
  go_wp2_with fail
  go_ret
  exact ⟨rfl, rfl⟩

/-- The chapter's Check. -/
theorem rcheck_any (c : C) (w : World) (hE : 0 ≤ c.ep) : Calls Tryd.prog 9 #[c.v] w fun e w' => e = .returned (.int .i64 (chk c)) ∧ w.alloc (.cells c.cells 24) = w' := by
  obtain ⟨K, H, E, N⟩ := c
  have hE0 : 0 ≤ E := hE
  clear hE
  unfold C.v C.cells
  simp only
  by_cases h1 : K < 0
  · have hr : chk ⟨K, H, E, N⟩ = 1 := if_pos (.inl h1)
    rw [hr]
    have b1 : decide (K < 0) = true := by simp [h1]
    clear hr
    go_enter Tryd.func9, Tryd.ntmps9
    go_wp2_with fail
    go_ret
    exact ⟨rfl, rfl⟩
  have b1 : decide (K < 0) = false := by simp; omega
  by_cases h2 : K ≥ 5
  · have hr : chk ⟨K, H, E, N⟩ = 1 := if_pos (.inr h2)
    rw [hr]
    have b2 : decide (K > 4) = true := by simp; omega
    clear hr
    go_enter Tryd.func9, Tryd.ntmps9
    go_wp2_with fail
    go_ret
    exact ⟨rfl, rfl⟩
  have b2 : decide (K > 4) = false := by simp; omega
  by_cases h3 : K = 0
  · subst h3
    have hz : chk ⟨0, H, E, N⟩ = if H = 0 ∧ E = 0 ∧ N = 0 then 0 else 4 := by unfold chk; rw [if_neg (by simp), if_pos rfl]
    by_cases h4 : H = 0
    · by_cases h5 : E = 0
      · by_cases h6 : N = 0
        · rw [hz, if_pos ⟨h4, h5, h6⟩]
          subst h4 h5 h6
          clear hz
          go_enter Tryd.func9, Tryd.ntmps9
          go_wp2_with fail
          go_ret
          exact ⟨rfl, rfl⟩
        · rw [hz, if_neg (by omega)]
          subst h4 h5
          clear hz
          go_enter Tryd.func9, Tryd.ntmps9
          go_wp2_with fail
          go_ret
          exact ⟨rfl, rfl⟩
      · rw [hz, if_neg (by omega)]
        subst h4
        clear hz
        go_enter Tryd.func9, Tryd.ntmps9
        go_wp2_with fail
        go_ret
        exact ⟨rfl, rfl⟩
    · rw [hz, if_neg (by omega)]
      clear hz
      go_enter Tryd.func9, Tryd.ntmps9
      go_wp2_with fail
      go_ret
      exact ⟨rfl, rfl⟩
  have b3 : (K == 0) = false := by simp [h3]
  have hs : chk ⟨K, H, E, N⟩ = if H < 0 ∨ H ≥ 4 ∨ E < 1 ∨ N < 1 ∨ N > 24 then 4 else 0 := by unfold chk; rw [if_neg (by simp only; omega), if_neg h3]
  by_cases h4 : H < 0
  · rw [hs, if_pos (by omega)]
    have b4 : decide (H < 0) = true := by simp [h4]
    clear hs h1 h2 h3
    go_enter Tryd.func9, Tryd.ntmps9
    go_wp2_with fail
    go_ret
    exact ⟨rfl, rfl⟩
  have b4 : decide (H < 0) = false := by simp; omega
  by_cases h5 : H ≥ 4
  · rw [hs, if_pos (by omega)]
    have b5 : decide (H > 3) = true := by simp; omega
    clear hs h1 h2 h3
    go_enter Tryd.func9, Tryd.ntmps9
    go_wp2_with fail
    go_ret
    exact ⟨rfl, rfl⟩
  have b5 : decide (H > 3) = false := by simp; omega
  by_cases h6 : E < 1
  · rw [hs, if_pos (by omega)]
    have b6 : (E == 0) = true := by simp; omega
    clear hs h1 h2 h3
    go_enter Tryd.func9, Tryd.ntmps9
    go_wp2_with fail
    go_ret
    exact ⟨rfl, rfl⟩
  have b6 : (E == 0) = false := by simp; omega
  by_cases h7 : N < 1
  · rw [hs, if_pos (by omega)]
    have b7 : decide (N < 1) = true := by simp [h7]
    clear hs h1 h2 h3
    go_enter Tryd.func9, Tryd.ntmps9
    go_wp2_with fail
    go_ret
    exact ⟨rfl, rfl⟩
  have b7 : decide (N < 1) = false := by simp; omega
  by_cases h8 : N > 24
  · rw [hs, if_pos (by omega)]
    have b8 : decide (N > 24) = true := by simp [h8]
    clear hs h1 h2 h3
    go_enter Tryd.func9, Tryd.ntmps9
    go_wp2_with fail
    go_ret
    exact ⟨rfl, rfl⟩
  have b8 : decide (N > 24) = false := by simp; omega
  rw [hs, if_neg (by omega)]
  clear hs h1 h2 h3
  go_enter Tryd.func9, Tryd.ntmps9
  go_wp2_with fail
  go_ret
  exact ⟨rfl, rfl⟩

end Go.Proofs.YtlpkandfmbnlnaaDoor.Cmd
