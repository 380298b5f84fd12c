/- cmds.kind, plain, Number. -/
import Derived.Test.YtlpkandfmbnlnaaDoorEnv
set_option linter.unusedVariables false
set_option linter.unusedSimpArgs false
set_option maxRecDepth 100000
namespace Go.Proofs.YtlpkandfmbnlnaaDoor.Txt
open Go Go.RowKit Go.Proofs.YtlpkandfmbnlnaaDoor.Str

def kdOf (l : List UInt8) : Int := if l = nmOf 0 then 0 else if l = nmOf 1 then 1 else if l = nmOf 2 then 2 else if l = nmOf 3 then 3 else if l = nmOf 4 then 4 else -1

theorem var_row {w : World} {n : String} {g : Nat} {cs : Array Value} (hg : Tryd.prog.globalNamed n = some g) (h : w.var? Tryd.prog n = some cs) : ∃ t fr, w.heap[g]? = some (.cells cs t fr) := by
  unfold World.var? at h
  simp only [hg, Option.bind_some] at h
  generalize w.heap[g]? = o at h ⊢
  match o, h with
  | some (.cells c t fr), h => exact ⟨t, fr, by rw [Option.some.inj h]⟩
theorem eqb_true {s : ByteArray} {a : List UInt8} (h : s.data.toList = a) : (a == s.toList) = true := by rw [Lib.toList_data, h]; simp
theorem eqb_false {s : ByteArray} {a : List UInt8} (h : ¬ s.data.toList = a) : (a == s.toList) = false := by rw [Lib.toList_data]; simp; exact fun e => h e.symm
set_option maxHeartbeats 4000000 in
theorem kind_any (s : ByteArray) (w : World) (hE : Env w) :
    Calls Tryd.prog 58 #[.string s] w fun e w' => e = .returned (.int .i64 (kdOf s.data.toList)) ∧ w = w' := by
  obtain ⟨t, fr, hrow⟩ := var_row gNames hE.names
  clear hE
  have i0 : ∀ w, (Instr.index 81 (.agg nmC) (.int .i64 0)).run Tryd.prog w = .ok (.string ⟨#[110, 111, 111, 112]⟩) w := fun _ => by kernel_rfl
  have i1 : ∀ w, (Instr.index 81 (.agg nmC) (.int .i64 1)).run Tryd.prog w = .ok (.string ⟨#[114, 101, 109, 111, 118, 101]⟩) w := fun _ => by kernel_rfl
  have i2 : ∀ w, (Instr.index 81 (.agg nmC) (.int .i64 2)).run Tryd.prog w = .ok (.string ⟨#[97, 112, 112, 101, 110, 100]⟩) w := fun _ => by kernel_rfl
  have i3 : ∀ w, (Instr.index 81 (.agg nmC) (.int .i64 3)).run Tryd.prog w = .ok (.string ⟨#[112, 114, 111, 109, 111, 116, 101]⟩) w := fun _ => by kernel_rfl
  have i4 : ∀ w, (Instr.index 81 (.agg nmC) (.int .i64 4)).run Tryd.prog w = .ok (.string ⟨#[115, 101, 116, 116, 108, 101]⟩) w := fun _ => by kernel_rfl
  have hlr : ∀ l : List UInt8, kdOf l = if l = [110, 111, 111, 112] then 0 else if l = [114, 101, 109, 111, 118, 101] then 1 else if l = [97, 112, 112, 101, 110, 100] then 2 else if l = [112, 114, 111, 109, 111, 116, 101] then 3 else if l = [115, 101, 116, 116, 108, 101] then 4 else -1 := fun _ => rfl
  by_cases e0 : s.data.toList = [110, 111, 111, 112]
  · have f0 := eqb_true e0
    have hr : kdOf s.data.toList = 0 := by rw [hlr]; rw [if_pos e0]
    rw [hr]
    clear hr hlr e0
    go_enter Tryd.func58, Tryd.ntmps58
    go_wp2_with (refine wpList_load_row rfl 81 _ rfl 0 rfl t nmC fr _ hrow Tryd.underlying81 rfl (by kernel_rfl) ?_)
    refine wp_loop_rounds 6 ?_
    rw [rounds_succ]
    go_wp2_with fail
    go_ret
    exact ⟨rfl, rfl⟩
  have f0 := eqb_false e0
  by_cases e1 : s.data.toList = [114, 101, 109, 111, 118, 101]
  · have f1 := eqb_true e1
    have hr : kdOf s.data.toList = 1 := by rw [hlr]; rw [if_neg e0]; rw [if_pos e1]
    rw [hr]
    clear hr hlr e0 e1
    go_enter Tryd.func58, Tryd.ntmps58
    go_wp2_with (refine wpList_load_row rfl 81 _ rfl 0 rfl t nmC fr _ hrow Tryd.underlying81 rfl (by kernel_rfl) ?_)
    refine wp_loop_rounds 6 ?_
    rw [rounds_succ]
    go_wp2_with fail
    rw [rounds_succ]
    go_wp2_with fail
    go_ret
    exact ⟨rfl, rfl⟩
  have f1 := eqb_false e1
  by_cases e2 : s.data.toList = [97, 112, 112, 101, 110, 100]
  · have f2 := eqb_true e2
    have hr : kdOf s.data.toList = 2 := by rw [hlr]; rw [if_neg e0]; rw [if_neg e1]; rw [if_pos e2]
    rw [hr]
    clear hr hlr e0 e1 e2
    go_enter Tryd.func58, Tryd.ntmps58
    go_wp2_with (refine wpList_load_row rfl 81 _ rfl 0 rfl t nmC fr _ hrow Tryd.underlying81 rfl (by kernel_rfl) ?_)
    refine wp_loop_rounds 6 ?_
    rw [rounds_succ]
    go_wp2_with fail
    rw [rounds_succ]
    go_wp2_with fail
    rw [rounds_succ]
    go_wp2_with fail
    go_ret
    exact ⟨rfl, rfl⟩
  have f2 := eqb_false e2
  by_cases e3 : s.data.toList = [112, 114, 111, 109, 111, 116, 101]
  · have f3 := eqb_true e3
    have hr : kdOf s.data.toList = 3 := by rw [hlr]; rw [if_neg e0]; rw [if_neg e1]; rw [if_neg e2]; rw [if_pos e3]
    rw [hr]
    clear hr hlr e0 e1 e2 e3
    go_enter Tryd.func58, Tryd.ntmps58
    go_wp2_with (refine wpList_load_row rfl 81 _ rfl 0 rfl t nmC fr _ hrow Tryd.underlying81 rfl (by kernel_rfl) ?_)
    refine wp_loop_rounds 6 ?_
    rw [rounds_succ]
    go_wp2_with fail
    rw [rounds_succ]
    go_wp2_with fail
    rw [rounds_succ]
    go_wp2_with fail
    rw [rounds_succ]
    go_wp2_with fail
    go_ret
    exact ⟨rfl, rfl⟩
  have f3 := eqb_false e3
  by_cases e4 : s.data.toList = [115, 101, 116, 116, 108, 101]
  · have f4 := eqb_true e4
    have hr : kdOf s.data.toList = 4 := by rw [hlr]; rw [if_neg e0]; rw [if_neg e1]; rw [if_neg e2]; rw [if_neg e3]; rw [if_pos e4]
    rw [hr]
    clear hr hlr e0 e1 e2 e3 e4
    go_enter Tryd.func58, Tryd.ntmps58
    go_wp2_with (refine wpList_load_row rfl 81 _ rfl 0 rfl t nmC fr _ hrow Tryd.underlying81 rfl (by kernel_rfl) ?_)
    refine wp_loop_rounds 6 ?_
    rw [rounds_succ]
    go_wp2_with fail
    rw [rounds_succ]
    go_wp2_with fail
    rw [rounds_succ]
    go_wp2_with fail
    rw [rounds_succ]
    go_wp2_with fail
    rw [rounds_succ]
    go_wp2_with fail
    go_ret
    exact ⟨rfl, rfl⟩
  have f4 := eqb_false e4
  have hr : kdOf s.data.toList = -1 := by rw [hlr]; rw [if_neg e0]; rw [if_neg e1]; rw [if_neg e2]; rw [if_neg e3]; rw [if_neg e4]; skip
  rw [hr]
  clear hr hlr e0 e1 e2 e3 e4
  go_enter Tryd.func58, Tryd.ntmps58
  go_wp2_with (refine wpList_load_row rfl 81 _ rfl 0 rfl t nmC fr _ hrow Tryd.underlying81 rfl (by kernel_rfl) ?_)
  refine wp_loop_rounds 6 ?_
  rw [rounds_succ]
  go_wp2_with fail
  rw [rounds_succ]
  go_wp2_with fail
  rw [rounds_succ]
  go_wp2_with fail
  rw [rounds_succ]
  go_wp2_with fail
  rw [rounds_succ]
  go_wp2_with fail
  rw [rounds_succ]
  go_wp2_with fail
  go_ret
  exact ⟨rfl, rfl⟩
end Go.Proofs.YtlpkandfmbnlnaaDoor.Txt
