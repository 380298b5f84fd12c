/- What the proof of the claim leans on, of these texts: PConf; only what is used. -/
import Derived.Deep.RegionWith
import Derived.Handy
import Derived.Laws.StructEq
import Derived.LoopTactic
import Derived.Test.YtlpkandfmbnlnaaDoorK1
import Derived.Test.YtlpkandfmbnlnaaDoorK10
import Derived.Test.YtlpkandfmbnlnaaDoorK2
import Derived.Test.YtlpkandfmbnlnaaDoorK3
import Derived.Test.YtlpkandfmbnlnaaDoorK4
import Derived.Test.YtlpkandfmbnlnaaDoorK5
import Derived.Test.YtlpkandfmbnlnaaDoorK6
import Derived.Test.YtlpkandfmbnlnaaDoorK7
import Derived.Test.YtlpkandfmbnlnaaDoorK8
import Derived.Test.YtlpkandfmbnlnaaDoorK9
namespace Go.Proofs.YtlpkandfmbnlnaaDoor
end Go.Proofs.YtlpkandfmbnlnaaDoor
namespace Go.Proofs.YtlpkandfmbnlnaaDoor.Cmd
end Go.Proofs.YtlpkandfmbnlnaaDoor.Cmd
namespace Go.Proofs.YtlpkandfmbnlnaaDoor.Fix
end Go.Proofs.YtlpkandfmbnlnaaDoor.Fix
namespace Go.Proofs.YtlpkandfmbnlnaaDoor.Laid
end Go.Proofs.YtlpkandfmbnlnaaDoor.Laid
namespace Go.Proofs.YtlpkandfmbnlnaaDoor.Mem
end Go.Proofs.YtlpkandfmbnlnaaDoor.Mem
namespace Go.Proofs.YtlpkandfmbnlnaaDoor.Num
end Go.Proofs.YtlpkandfmbnlnaaDoor.Num
namespace Go.Proofs.YtlpkandfmbnlnaaDoor.Opn
end Go.Proofs.YtlpkandfmbnlnaaDoor.Opn
namespace Go.Proofs.YtlpkandfmbnlnaaDoor.Q
end Go.Proofs.YtlpkandfmbnlnaaDoor.Q
namespace Go.Proofs.YtlpkandfmbnlnaaDoor.R
end Go.Proofs.YtlpkandfmbnlnaaDoor.R
namespace Go.Proofs.YtlpkandfmbnlnaaDoor.Ref
end Go.Proofs.YtlpkandfmbnlnaaDoor.Ref
namespace Go.Proofs.YtlpkandfmbnlnaaDoor.Str
end Go.Proofs.YtlpkandfmbnlnaaDoor.Str
namespace Go.Proofs.YtlpkandfmbnlnaaDoor.Txt
end Go.Proofs.YtlpkandfmbnlnaaDoor.Txt
namespace Go.Proofs.YtlpkandfmbnlnaaDoor.confDoes
end Go.Proofs.YtlpkandfmbnlnaaDoor.confDoes
namespace Go.Proofs.YtlpkandfmbnlnaaDoorW.PrintLast
end Go.Proofs.YtlpkandfmbnlnaaDoorW.PrintLast
namespace Go.Proofs.YtlpkandfmbnlnaaDoorW.PrintMore
end Go.Proofs.YtlpkandfmbnlnaaDoorW.PrintMore
namespace Go.Proofs.YtlpkandfmbnlnaaDoorW.PrintWords
end Go.Proofs.YtlpkandfmbnlnaaDoorW.PrintWords
section
set_option linter.unusedVariables false
set_option linter.unusedSimpArgs false
set_option maxRecDepth 100000
namespace Go.Proofs.YtlpkandfmbnlnaaDoor.Q
open Go Go.RowKit Go.Proofs.YtlpkandfmbnlnaaDoor.R Go.Proofs.YtlpkandfmbnlnaaDoorW.PrintWords Go.Proofs.YtlpkandfmbnlnaaDoorW.PrintLast Go.Proofs.YtlpkandfmbnlnaaDoorW.PrintMore
open Go.Proofs.YtlpkandfmbnlnaaDoor.Str Go.Proofs.YtlpkandfmbnlnaaDoor.Txt Go.Proofs.YtlpkandfmbnlnaaDoor.Cmd
theorem wsucc (i : Nat) (h : i < 1000000) : wrap64 ((i : Int) + 1) = ((i + 1 : Nat) : Int) := by unfold wrap64; omega
theorem rd_at (l : List Int) (i : Nat) (h : i < l.length) : rd l (i : Int) = l[i] := by simp [rd, List.getD, h]
theorem rdT_at (l : List S54) (i : Nat) (h : i < l.length) : rd_T54 l (i : Int) = l[i] := by simp [rd_T54, List.getD, h]
theorem rdC_at (l : List S24) (i : Nat) (h : i < l.length) : rd_T24 l (i : Int) = l[i] := by simp [rd_T24, List.getD, h]
theorem has_l0 (l : List Int) (x : Int) (hl : l.length ≤ 100000) : ∀ (d i : Nat), i + d = l.length → Ev (fun k => catenaryref04_Has.l0 k l x (i : Int)) ((l.drop i).contains x)
 | 0, i, hi => by
  refine Ev.step (f := fun _ => some false) (fun k => ?_) (by rw [List.drop_eq_nil_of_le (by omega)]; exact Ev.now _)
  simp only [catenaryref04_Has.l0]
  rw [if_neg (by omega)]
 | d + 1, i, hi => by
  have hlt : i < l.length := by omega
  rw [List.drop_eq_getElem_cons hlt]
  by_cases h : l[i] = x
  ·refine Ev.step (f := fun _ => some true) (fun k => ?_) (by simp only [List.contains_cons, h, beq_self_eq_true, Bool.true_or]; exact Ev.now _)
   simp only [catenaryref04_Has.l0]
   rw [if_pos (by omega), if_pos (by omega), rd_at l i hlt, if_pos h]
  ·refine Ev.step (f := fun k => catenaryref04_Has.l0 k l x ((i + 1 : Nat) : Int)) (fun k => ?_) ?_
   ·simp only [catenaryref04_Has.l0]
    rw [if_pos (by omega), if_pos (by omega), rd_at l i hlt, if_neg h, wsucc i (by omega)]
   ·have e : (x == l[i]) = false := by simp; exact fun e => h e.symm
    simp only [List.contains_cons, e, Bool.false_or]
    exact has_l0 l x hl d (i + 1) (by omega)
theorem has_ev (l : List Int) (x : Int) (hl : l.length ≤ 100000) : Ev (fun k => catenaryref04_Has.f k l x) (l.contains x) := by
 have := has_l0 l x hl l.length 0 (by omega)
 simpa [catenaryref04_Has.f] using this
theorem index_l0 (l : List Int) (x : Int) (hl : l.length ≤ 100000) : ∀ (d i : Nat), i + d = l.length → ∃ r : Int, Ev (fun k => slices_Index_int_int.l0 k l x (l.length : Int) (i : Int)) r ∧ decide (r ≥ 0) = (l.drop i).contains x
 | 0, i, hi => by
  refine ⟨-1, Ev.step (f := fun _ => some (-1)) (fun k => ?_) (Ev.now _), by rw [List.drop_eq_nil_of_le (by omega)]; rfl⟩
  simp only [slices_Index_int_int.l0]
  rw [if_neg (by omega)]
 | d + 1, i, hi => by
  have hlt : i < l.length := by omega
  rw [List.drop_eq_getElem_cons hlt]
  by_cases h : x = l[i]
  ·refine ⟨(i : Int), Ev.step (f := fun _ => some (i : Int)) (fun k => ?_) (Ev.now _), ?_⟩
   ·simp only [slices_Index_int_int.l0]
    rw [if_pos (by omega), if_pos (by omega), if_pos (by omega), rd_at l i hlt, if_pos h]
   ·simp [← h]
  ·obtain ⟨r, hr, hd⟩ := index_l0 l x hl d (i + 1) (by omega)
   refine ⟨r, Ev.step (f := fun k => slices_Index_int_int.l0 k l x (l.length : Int) ((i + 1 : Nat) : Int)) (fun k => ?_) hr, ?_⟩
   ·simp only [slices_Index_int_int.l0]
    rw [if_pos (by omega), if_pos (by omega), if_pos (by omega), rd_at l i hlt, if_neg h, wsucc i (by omega)]
   ·have e : (x == l[i]) = false := by simp [h]
    rw [hd, List.contains_cons, e, Bool.false_or]
theorem contains_ev (l : List Int) (x : Int) (hl : l.length ≤ 100000) : Ev (fun k => slices_Contains_int_int.f k l x) (l.contains x) := by
 obtain ⟨r, hr, hd⟩ := index_l0 l x hl l.length 0 (by omega)
 rw [List.drop_zero] at hd
 refine Ev.bind (g := fun k => slices_Index_int_int.f k l x) (f := fun _ t => some (decide (t ≥ 0))) (a := r) hr ?_
 rw [hd]
 exact Ev.now _
def unlF : List Int → List Int → Bool
 | _, [] => true
 | p, x :: r => if 1 ≤ x ∧ x ≤ 24 then (if p.contains x then false else unlF (p ++ [x]) r) else false
def unl (l : List Int) : Bool := unlF [] l
theorem unlike_l0 (l : List Int) (hl : l.length ≤ 100000) : ∀ (d i : Nat), i + d = l.length → Ev (fun k => conf_unlike.l0 k l l (l.length : Int) (i : Int)) (unlF (l.take i) (l.drop i))
 | 0, i, hi => by
  refine Ev.step (f := fun _ => some true) (fun k => ?_) (by rw [List.drop_eq_nil_of_le (by omega), unlF]; exact Ev.now _)
  simp only [conf_unlike.l0]
  rw [if_neg (by omega)]
 | d + 1, i, hi => by
  have hlt : i < l.length := by omega
  have ih := unlike_l0 l hl d (i + 1) (by omega)
  rw [List.take_add_one, List.getElem?_eq_getElem hlt, Option.toList_some] at ih
  rw [List.drop_eq_getElem_cons hlt, unlF]
  by_cases h : 1 ≤ l[i] ∧ l[i] ≤ 24
  ·rw [if_pos h]
   refine Ev.step (f := fun k => (slices_Contains_int_int.f k (l.take i) l[i]).bind fun t => if t = true then some false else conf_unlike.l0 k l l (l.length : Int) ((i + 1 : Nat) : Int)) (fun k => ?_) (Ev.bind (contains_ev (l.take i) l[i] (by simp; omega)) ?_)
   ·simp only [conf_unlike.l0, conf_node.f]
    rw [if_pos (by omega), if_pos (by omega), if_pos (by omega), rd_at l i hlt, if_pos h.1, Option.bind_some, if_pos (by simpa using h.2), if_pos (by omega), wsucc i (by omega), Int.toNat_natCast]
   ·cases (l.take i).contains l[i] with
    | true => simp only [if_true]; exact Ev.now _
    | false => simp only [Bool.false_eq_true, if_false]; exact ih
  ·rw [if_neg h]
   refine Ev.step (f := fun _ => some false) (fun k => ?_) (Ev.now _)
   simp only [conf_unlike.l0, conf_node.f]
   rw [if_pos (by omega), if_pos (by omega), if_pos (by omega), rd_at l i hlt]
   by_cases h1 : l[i] ≥ 1
   ·rw [if_pos h1, Option.bind_some, if_neg (by simp; omega)]
   ·rw [if_neg h1, Option.bind_some, if_neg (by simp)]
theorem unlike_ev (l : List Int) (hl : l.length ≤ 100000) : Ev (fun k => conf_unlike.f k l) (unl l) := by
 have := unlike_l0 l hl l.length 0 (by omega)
 simpa [conf_unlike.f, unl] using this
theorem runlike_l0 (l : List Int) (hl : l.length ≤ 100000) : ∀ (d i : Nat), i + d = l.length → Ev (fun k => catenaryref09_Unlike.l0 k l (i : Int)) (unlF (l.take i) (l.drop i))
 | 0, i, hi => by
  refine Ev.step (f := fun _ => some true) (fun k => ?_) (by rw [List.drop_eq_nil_of_le (by omega), unlF]; exact Ev.now _)
  simp only [catenaryref09_Unlike.l0]
  rw [if_neg (by omega)]
 | d + 1, i, hi => by
  have hlt : i < l.length := by omega
  have ih := runlike_l0 l hl d (i + 1) (by omega)
  rw [List.take_add_one, List.getElem?_eq_getElem hlt, Option.toList_some] at ih
  rw [List.drop_eq_getElem_cons hlt, unlF]
  by_cases h : 1 ≤ l[i] ∧ l[i] ≤ 24
  ·rw [if_pos h]
   refine Ev.step (f := fun k => (catenaryref04_Has.f k (l.take i) l[i]).bind fun t => if t = true then some false else catenaryref09_Unlike.l0 k l ((i + 1 : Nat) : Int)) (fun k => ?_) (Ev.bind (has_ev (l.take i) l[i] (by simp; omega)) ?_)
   ·simp only [catenaryref09_Unlike.l0]
    rw [if_pos (by omega), if_pos (by omega), rd_at l i hlt, if_neg (by omega), if_neg (by omega), if_pos (by omega), wsucc i (by omega), Int.toNat_natCast]
   ·cases (l.take i).contains l[i] with
    | true => simp only [if_true]; exact Ev.now _
    | false => simp only [Bool.false_eq_true, if_false]; exact ih
  ·rw [if_neg h]
   refine Ev.step (f := fun _ => some false) (fun k => ?_) (Ev.now _)
   simp only [catenaryref09_Unlike.l0]
   rw [if_pos (by omega), if_pos (by omega), rd_at l i hlt]
   by_cases h1 : l[i] < 1
   ·rw [if_pos h1]
   ·rw [if_neg h1, if_pos (by omega)]
theorem runlike_ev (l : List Int) (hl : l.length ≤ 100000) : Ev (fun k => catenaryref09_Unlike.f k l) (unl l) := by
 have := runlike_l0 l hl l.length 0 (by omega)
 simpa [catenaryref09_Unlike.f, unl] using this
def st (x : S54) : List Int := if x.f4 = 0 then x.f2 else x.f2 ++ [x.f4]
theorem st_len (x : S54) : (st x).length ≤ x.f2.length + 1 := by
 unfold st
 split <;> simp
theorem every_f (x : S54) (hl : x.f2.length ≤ 10000) : conf_everybody.f x.f0 x.f1 x.f2 x.f3 x.f4 = some (st x) := by
 unfold conf_everybody.f slices_Clone_int_int.f st
 have h1 : x.f2.length < 17592186044416 := by omega
 by_cases h : x.f4 = 0
 ·rw [if_pos h, if_pos h, if_pos h1]
  rfl
 ·rw [if_neg h, if_neg h, if_pos h1]
  simp only [Option.bind_some]
  rw [if_pos (by simp; omega)]
theorem stands_f (x : S54) (hl : x.f2.length ≤ 10000) : catenaryref09_Stands.f x.f0 x.f1 x.f2 x.f3 x.f4 = some (st x) := by
 unfold catenaryref09_Stands.f st
 rw [if_pos (by simp; omega)]
 simp only [List.nil_append, Option.bind_some]
 split
 ·rfl
 ·rw [if_pos (by omega)]
def rt (x : S54) : Bool := decide (0 ≤ x.f0 ∧ x.f0 < 4 ∧ 1 ≤ x.f1 ∧ 1 ≤ x.f2.length ∧ x.f2.length ≤ 5 ∧ ¬ (x.f3 = true ∧ (x.f2.length < 2 ∨ x.f4 ≠ 0))) && unl (st x)
theorem Ev.later {α : Type} {g : Nat → Option α} {r : α} (k : Ev g r) : Ev (fun n => g (n + 1)) r := by
 obtain ⟨K, h⟩ := k
 exact ⟨K, fun n hn => h (n + 1) (by omega)⟩
theorem right_ev (x : S54) (hl : x.f2.length ≤ 10000) : Ev (fun k => conf_Right.f k x.f0 x.f1 x.f2 x.f3 x.f4) (rt x) := by
 have hs := st_len x
 have hu := unlike_ev (st x) (by omega)
 have he := every_f x hl
 have j1 : ∀ b : Bool, Ev (fun k => conf_Right.j1 k b x.f0 x.f1 x.f2 x.f3 x.f4) (!b && unl (st x)) := fun b => by
  cases b with
  | true => exact Ev.step (f := fun _ => some false) (fun k => by simp only [conf_Right.j1, if_true]) (Ev.now _)
  | false =>
   refine Ev.step (f := fun k => conf_unlike.f k (st x)) (fun k => ?_) (by simpa using hu)
   simp only [conf_Right.j1, Bool.false_eq_true, if_false, he, Option.bind_some]
   cases conf_unlike.f k (st x) <;> rfl
 have j0 : ∀ b : Bool, Ev (fun k => conf_Right.j0 k (x.f2.length : Int) b x.f0 x.f1 x.f2 x.f3 x.f4) (!b && (decide (1 ≤ x.f2.length ∧ x.f2.length ≤ 5 ∧ ¬ (x.f3 = true ∧ (x.f2.length < 2 ∨ x.f4 ≠ 0))) && unl (st x))) := fun b => by
  cases b with
  | true => exact Ev.step (f := fun _ => some false) (fun k => by simp only [conf_Right.j0, if_true]) (Ev.now _)
  | false =>
   obtain ⟨c, hc, hj⟩ : ∃ c : Bool, (∀ k, conf_Right.j0 (k + 1) (x.f2.length : Int) false x.f0 x.f1 x.f2 x.f3 x.f4 = conf_Right.j1 k c x.f0 x.f1 x.f2 x.f3 x.f4) ∧ (!c) = decide (1 ≤ x.f2.length ∧ x.f2.length ≤ 5 ∧ ¬ (x.f3 = true ∧ (x.f2.length < 2 ∨ x.f4 ≠ 0))) := by
    by_cases h1 : (x.f2.length : Int) < 1
    ·exact ⟨true, fun k => by simp only [conf_Right.j0, Bool.false_eq_true, if_false, if_pos h1], by simp; omega⟩
    ·by_cases h2 : (x.f2.length : Int) > 5
     ·exact ⟨true, fun k => by simp only [conf_Right.j0, Bool.false_eq_true, if_false, if_neg h1, if_pos h2], by simp; omega⟩
     ·cases h3 : x.f3 with
      | false => exact ⟨false, fun k => by simp only [conf_Right.j0, Bool.false_eq_true, if_false, if_neg h1, if_neg h2], by simp; omega⟩
      | true =>
       by_cases h4 : (x.f2.length : Int) < 2
       ·exact ⟨true, fun k => by simp only [conf_Right.j0, Bool.false_eq_true, if_false, if_neg h1, if_neg h2, if_true, if_pos h4], by simp; omega⟩
       ·refine ⟨x.f4 != 0, fun k => by simp only [conf_Right.j0, Bool.false_eq_true, if_false, if_neg h1, if_neg h2, if_true, if_neg h4], ?_⟩
        by_cases h5 : x.f4 = 0
        ·simp [h5]; omega
        ·simp [h5]
   refine Ev.step hc ?_
   rw [Bool.not_false, Bool.true_and, ← hj]
   exact j1 c
 obtain ⟨b, hb, hj⟩ : ∃ b : Bool, (∀ k, conf_Right.f k x.f0 x.f1 x.f2 x.f3 x.f4 = conf_Right.j0 k (x.f2.length : Int) b x.f0 x.f1 x.f2 x.f3 x.f4) ∧ (!b) = decide (0 ≤ x.f0 ∧ x.f0 < 4 ∧ 1 ≤ x.f1) := by
  by_cases h1 : x.f0 < 0
  ·exact ⟨true, fun k => by simp only [conf_Right.f, if_pos h1], by simp; omega⟩
  ·by_cases h2 : x.f0 ≥ 4
   ·exact ⟨true, fun k => by simp only [conf_Right.f, if_neg h1, if_pos h2], by simp; omega⟩
   ·exact ⟨decide (x.f1 < 1), fun k => by simp only [conf_Right.f, if_neg h1, if_neg h2], by by_cases h3 : x.f1 < 1 <;> simp [h3] <;> omega⟩
 refine Ev.congr hb ?_
 have e : rt x = (!b && (decide (1 ≤ x.f2.length ∧ x.f2.length ≤ 5 ∧ ¬ (x.f3 = true ∧ (x.f2.length < 2 ∨ x.f4 ≠ 0))) && unl (st x))) := by
  rw [hj, ← Bool.and_assoc, ← Bool.decide_and]
  unfold rt
  congr 1
  exact decide_eq_decide.2 ⟨fun h => ⟨⟨h.1, h.2.1, h.2.2.1⟩, h.2.2.2⟩, fun h => ⟨h.1.1, h.1.2.1, h.1.2.2, h.2⟩⟩
 rw [e]
 exact j0 b
theorem rright_ev (x : S54) (hl : x.f2.length ≤ 10000) (h1 : 0 ≤ x.f1) : Ev (fun k => catenaryref09_Right.f k x.f0 x.f1 x.f2 x.f3 x.f4) (rt x) := by
 have hs := st_len x
 have hu := runlike_ev (st x) (by omega)
 have he := stands_f x hl
 have j1 : ∀ b : Bool, Ev (fun k => catenaryref09_Right.j1 k b x.f0 x.f1 x.f2 x.f3 x.f4) (!b && unl (st x)) := fun b => by
  cases b with
  | true => exact Ev.step (f := fun _ => some false) (fun k => by simp only [catenaryref09_Right.j1, if_true]) (Ev.now _)
  | false =>
   refine Ev.step (f := fun k => catenaryref09_Unlike.f k (st x)) (fun k => ?_) (by simpa using hu)
   simp only [catenaryref09_Right.j1, Bool.false_eq_true, if_false, he, Option.bind_some]
   cases catenaryref09_Unlike.f k (st x) <;> rfl
 have j0 : ∀ b : Bool, Ev (fun k => catenaryref09_Right.j0 k b x.f0 x.f1 x.f2 x.f3 x.f4) (!b && (decide (¬ (x.f3 = true ∧ (x.f2.length = 1 ∨ x.f4 ≠ 0))) && unl (st x))) := fun b => by
  cases b with
  | true => exact Ev.step (f := fun _ => some false) (fun k => by simp only [catenaryref09_Right.j0, if_true]) (Ev.now _)
  | false =>
   obtain ⟨c, hc, hj⟩ : ∃ c : Bool, (∀ k, catenaryref09_Right.j0 (k + 1) false x.f0 x.f1 x.f2 x.f3 x.f4 = catenaryref09_Right.j1 k c x.f0 x.f1 x.f2 x.f3 x.f4) ∧ (!c) = decide (¬ (x.f3 = true ∧ (x.f2.length = 1 ∨ x.f4 ≠ 0))) := by
    cases h3 : x.f3 with
    | false => exact ⟨false, fun k => by simp only [catenaryref09_Right.j0, Bool.false_eq_true, if_false], by simp⟩
    | true =>
     by_cases h4 : (x.f2.length : Int) = 1
     ·exact ⟨true, fun k => by simp only [catenaryref09_Right.j0, Bool.false_eq_true, if_false, if_true, if_pos h4], by simp; omega⟩
     ·refine ⟨x.f4 != 0, fun k => by simp only [catenaryref09_Right.j0, Bool.false_eq_true, if_false, if_true, if_neg h4], ?_⟩
      by_cases h5 : x.f4 = 0
      ·simp [h5]; omega
      ·simp [h5]
   refine Ev.step hc ?_
   rw [Bool.not_false, Bool.true_and, ← hj]
   exact j1 c
 obtain ⟨b, hb, hj⟩ : ∃ b : Bool, (∀ k, catenaryref09_Right.f k x.f0 x.f1 x.f2 x.f3 x.f4 = catenaryref09_Right.j0 k b x.f0 x.f1 x.f2 x.f3 x.f4) ∧ (!b) = decide (0 ≤ x.f0 ∧ x.f0 < 4 ∧ 1 ≤ x.f1 ∧ 1 ≤ x.f2.length ∧ x.f2.length ≤ 5) := by
  by_cases g1 : x.f0 < 0
  ·exact ⟨true, fun k => by simp only [catenaryref09_Right.f, if_pos g1], by simp; omega⟩
  ·by_cases g2 : x.f0 > 3
   ·exact ⟨true, fun k => by simp only [catenaryref09_Right.f, if_neg g1, if_pos g2], by simp; omega⟩
   ·by_cases g3 : x.f1 = 0
    ·exact ⟨true, fun k => by simp only [catenaryref09_Right.f, if_neg g1, if_neg g2, if_pos g3], by simp; omega⟩
    ·by_cases g4 : (x.f2.length : Int) = 0
     ·exact ⟨true, fun k => by simp only [catenaryref09_Right.f, if_neg g1, if_neg g2, if_neg g3, if_pos g4], by simp; omega⟩
     ·exact ⟨decide ((x.f2.length : Int) > 5), fun k => by simp only [catenaryref09_Right.f, if_neg g1, if_neg g2, if_neg g3, if_neg g4], by by_cases g5 : (x.f2.length : Int) > 5 <;> simp [g5] <;> omega⟩
 refine Ev.congr hb ?_
 have e : rt x = (!b && (decide (¬ (x.f3 = true ∧ (x.f2.length = 1 ∨ x.f4 ≠ 0))) && unl (st x))) := by
  rw [hj, ← Bool.and_assoc, ← Bool.decide_and]
  unfold rt
  congr 1
  refine decide_eq_decide.2 ⟨fun h => ⟨⟨h.1, h.2.1, h.2.2.1, h.2.2.2.1, h.2.2.2.2.1⟩, fun g => h.2.2.2.2.2 ⟨g.1, g.2.imp (fun e => by omega) id⟩⟩, fun h => ⟨h.1.1, h.1.2.1, h.1.2.2.1, h.1.2.2.2.1, h.1.2.2.2.2, fun g => h.2 ⟨g.1, g.2.imp (fun e => by have := h.1.2.2.2.1; omega) id⟩⟩⟩
 rw [e]
 exact j0 b
def alF : Nat → List Int → List S54 → Bool
 | _, acc, [] => unl acc
 | i, acc, x :: r => if x.f0 = (i : Int) then (if rt x = true then alF (i + 1) (acc ++ st x) r else false) else false
def al (l : List S54) : Bool := decide (1 ≤ l.length ∧ l.length ≤ 4) && alF 0 [] l
def Few (l : List S54) : Prop := l.length ≤ 100 ∧ ∀ x ∈ l, x.f2.length ≤ 100 ∧ 0 ≤ x.f1 ∧ x.f1 < 18446744073709551616
theorem all_l0 (l : List S54) (hf : Few l) : ∀ (d i : Nat) (acc : List Int), i + d = l.length → acc.length ≤ i * 101 → Ev (fun k => conf_All.l0 k acc l (l.length : Int) (i : Int)) (alF i acc (l.drop i))
 | 0, i, acc, hi, ha => by
  have hu := unlike_ev acc (by have := hf.1; omega)
  refine Ev.step (f := fun k => conf_unlike.f k acc) (fun k => ?_) (by rw [List.drop_eq_nil_of_le (by omega), alF]; exact hu)
  simp only [conf_All.l0]
  rw [if_neg (by omega)]
  cases conf_unlike.f k acc <;> rfl
 | d + 1, i, acc, hi, ha => by
  have hlt : i < l.length := by omega
  have hx := (hf.2 l[i] (List.getElem_mem hlt)).1
  have hs := st_len l[i]
  have hll := hf.1
  rw [List.drop_eq_getElem_cons hlt, alF]
  by_cases h : l[i].f0 = (i : Int)
  ·rw [if_pos h]
   refine Ev.step (f := fun k => (conf_Right.f k l[i].f0 l[i].f1 l[i].f2 l[i].f3 l[i].f4).bind fun t => if t = true then conf_All.l0 k (acc ++ st l[i]) l (l.length : Int) ((i + 1 : Nat) : Int) else some false) (fun k => ?_) (Ev.bind (right_ev l[i] (by omega)) ?_)
   ·simp only [conf_All.l0]
    rw [if_pos (by omega), if_pos (by omega), if_pos (by omega), rdT_at l i hlt, if_pos h, every_f l[i] (by omega)]
    simp only [Option.bind_some]
    rw [if_pos (by omega), wsucc i (by omega)]
   ·cases rt l[i] with
    | true => simp only [if_true]; exact all_l0 l hf d (i + 1) (acc ++ st l[i]) (by omega) (by simp; omega)
    | false => simp only [Bool.false_eq_true, if_false]; exact Ev.now _
  ·rw [if_neg h]
   refine Ev.step (f := fun _ => some false) (fun k => ?_) (Ev.now _)
   simp only [conf_All.l0]
   rw [if_pos (by omega), if_pos (by omega), if_pos (by omega), rdT_at l i hlt, if_neg h]
theorem all_ev (l : List S54) (hf : Few l) : Ev (fun k => conf_All.f k l) (al l) := by
 have h0 := all_l0 l hf l.length 0 [] (by omega) (by simp)
 have j0 : ∀ b : Bool, Ev (fun k => conf_All.j0 k l b) (!b && alF 0 [] l) := fun b => by
  cases b with
  | true => exact Ev.step (f := fun _ => some false) (fun k => by simp only [conf_All.j0, if_true]) (Ev.now _)
  | false => exact Ev.step (f := fun k => conf_All.l0 k [] l (l.length : Int) ((0 : Nat) : Int)) (fun k => by simp only [conf_All.j0, Bool.false_eq_true, if_false]; rfl) (by simpa using h0)
 by_cases h1 : (l.length : Int) < 1
 ·refine Ev.congr (f := fun k => conf_All.j0 k l true) (fun k => by simp only [conf_All.f, if_pos h1]) ?_
  have e : al l = (!true && alF 0 [] l) := by unfold al; rw [show decide (1 ≤ l.length ∧ l.length ≤ 4) = false by simp; omega]; rfl
  rw [e]
  exact j0 true
 ·refine Ev.congr (f := fun k => conf_All.j0 k l (decide ((l.length : Int) > 4))) (fun k => by simp only [conf_All.f, if_neg h1]) ?_
  have e : al l = (!decide ((l.length : Int) > 4) && alF 0 [] l) := by unfold al; congr 1; by_cases h2 : (l.length : Int) > 4 <;> simp [h2] <;> omega
  rw [e]
  exact j0 _
theorem rall_l0 (l : List S54) (hf : Few l) : ∀ (d i : Nat) (acc : List Int), i + d = l.length → acc.length ≤ i * 101 → Ev (fun k => catenaryref09_All.l0 k l acc (i : Int)) (decide (1 ≤ l.length ∧ l.length ≤ 4) && alF i acc (l.drop i))
 | 0, i, acc, hi, ha => by
  have hu := runlike_ev acc (by have := hf.1; omega)
  rw [List.drop_eq_nil_of_le (by omega), alF]
  by_cases h1 : (l.length : Int) ≥ 1
  ·by_cases h2 : (l.length : Int) ≤ 4
   ·refine Ev.step (f := fun k => catenaryref09_Unlike.f k acc) (fun k => ?_) (by rw [show decide (1 ≤ l.length ∧ l.length ≤ 4) = true by simp; omega]; exact hu)
    simp only [catenaryref09_All.l0]
    rw [if_neg (by omega), if_pos h1, if_pos h2]
    cases catenaryref09_Unlike.f k acc <;> rfl
   ·refine Ev.step (f := fun _ => some false) (fun k => ?_) (by rw [show decide (1 ≤ l.length ∧ l.length ≤ 4) = false by simp; omega]; exact Ev.now _)
    simp only [catenaryref09_All.l0]
    rw [if_neg (by omega), if_pos h1, if_neg h2]
  ·refine Ev.step (f := fun _ => some false) (fun k => ?_) (by rw [show decide (1 ≤ l.length ∧ l.length ≤ 4) = false by simp; omega]; exact Ev.now _)
   simp only [catenaryref09_All.l0]
   rw [if_neg (by omega), if_neg h1]
 | d + 1, i, acc, hi, ha => by
  have hlt : i < l.length := by omega
  have hx := hf.2 l[i] (List.getElem_mem hlt)
  have hs := st_len l[i]
  have hll := hf.1
  rw [List.drop_eq_getElem_cons hlt, alF]
  refine Ev.step (f := fun k => (catenaryref09_Right.f k l[i].f0 l[i].f1 l[i].f2 l[i].f3 l[i].f4).bind fun t => if t = true then (if l[i].f0 = (i : Int) then catenaryref09_All.l0 k l (acc ++ st l[i]) ((i + 1 : Nat) : Int) else some false) else some false) (fun k => ?_) (Ev.bind (rright_ev l[i] (by omega) hx.2.1) ?_)
  ·simp only [catenaryref09_All.l0]
   rw [if_pos (by omega), if_pos (by omega), rdT_at l i hlt, stands_f l[i] (by omega)]
   simp only [Option.bind_some]
   rw [if_pos (show acc.length + (st l[i]).length < 17592186044416 by omega), wsucc i (by omega)]
  ·by_cases h : l[i].f0 = (i : Int)
   ·rw [if_pos h]
    cases rt l[i] with
    | true => simp only [if_true, if_pos h]; exact rall_l0 l hf d (i + 1) (acc ++ st l[i]) (by omega) (by simp; omega)
    | false => simp only [Bool.false_eq_true, if_false, Bool.and_false]; exact Ev.now _
   ·rw [if_neg h, Bool.and_false]
    cases rt l[i] with
    | true => simp only [if_true, if_neg h]; exact Ev.now _
    | false => simp only [Bool.false_eq_true, if_false]; exact Ev.now _
theorem rall_ev (l : List S54) (hf : Few l) : Ev (fun k => catenaryref09_All.f k l) (al l) := by
 have := rall_l0 l hf l.length 0 [] (by omega) (by simp)
 simpa [catenaryref09_All.f, al] using this
def sd (x : S54) : List Int := if x.f3 = true then x.f2.take (x.f2.length - 1) else x.f2
theorem rt_len {x : S54} (h : rt x = true) : 1 ≤ x.f2.length ∧ x.f2.length ≤ 5 ∧ 0 ≤ x.f0 ∧ x.f0 < 4 ∧ 1 ≤ x.f1 ∧ unl (st x) = true := by
 unfold rt at h
 rw [Bool.and_eq_true, decide_eq_true_eq] at h
 exact ⟨h.1.2.2.2.1, h.1.2.2.2.2.1, h.1.1, h.1.2.1, h.1.2.2.1, h.2⟩
theorem wpred (n : Nat) (h1 : 1 ≤ n) (h : n < 1000000) : wrap64 ((n : Int) - 1) = ((n - 1 : Nat) : Int) := by unfold wrap64; omega
theorem settled_f (x : S54) (h1 : 1 ≤ x.f2.length) (hl : x.f2.length ≤ 10000) : conf_settled.f x.f0 x.f1 x.f2 x.f3 x.f4 = some (sd x) := by
 unfold conf_settled.f sd slices_Clone_int_int.f
 cases h : x.f3 with
 | true =>
  simp only [if_true]
  rw [wpred _ h1 (by omega), if_pos (by omega), if_pos (by omega), Int.toNat_natCast, if_pos (by simp; omega)]
  rfl
 | false =>
  simp only [Bool.false_eq_true, if_false]
  rw [if_pos (by omega)]
  rfl
theorem rsettled_ev (x : S54) (hl : x.f2.length ≤ 10000) (h1 : 0 ≤ x.f1) : Ev (fun k => catenaryref09_Settled.f k x.f0 x.f1 x.f2 x.f3 x.f4) (if rt x = true then sd x else []) := by
 refine Ev.bind (rright_ev x hl h1) ?_
 cases h : rt x with
 | true =>
  have hp := (rt_len h).1
  simp only [if_true]
  unfold sd
  cases h3 : x.f3 with
  | true =>
   simp only [if_true]
   rw [wpred _ hp (by omega), if_pos (by omega), if_pos (by omega), Int.toNat_natCast]
   exact Ev.now _
  | false =>
   simp only [Bool.false_eq_true, if_false]
   rw [if_pos (by omega), if_pos (by omega), Int.toNat_natCast, List.take_length]
   exact Ev.now _
 | false => simp only [Bool.false_eq_true, if_false]; exact Ev.now _
def us (l : List S54) (n : Int) : Bool := l.any fun x => (st x).contains n
theorem used_ev (n : Int) : ∀ l : List S54, Few l → Ev (fun k => conf_Used.f k l n) (us l n)
 | [], _ => Ev.now _
 | x :: r, hf => by
  have hx := hf.2 x List.mem_cons_self
  have hs := st_len x
  have ih := used_ev n r ⟨by have := hf.1; simp at this; omega, fun y hy => hf.2 y (List.mem_cons_of_mem _ hy)⟩
  refine Ev.bind (g := fun k => stands k x n) (f := fun k b => if b = true then some true else usedL k n r) (a := (st x).contains n) ?_ ?_
  ·refine Ev.congr (f := fun k => slices_Contains_int_int.f k (st x) n) (fun k => by unfold stands; rw [every_f x (by omega)]; rfl) (contains_ev (st x) n (by omega))
  ·unfold us
   rw [List.any_cons]
   cases (st x).contains n with
   | true => simp only [if_true, Bool.true_or]; exact Ev.now _
   | false => simp only [Bool.false_eq_true, if_false, Bool.false_or]; exact ih
theorem rused_l0 (l : List S54) (n : Int) (hf : Few l) : ∀ (d i : Nat), i + d = l.length → Ev (fun k => catenaryref09_Used.l0 k l n (i : Int)) (us (l.drop i) n)
 | 0, i, hi => by
  refine Ev.step (f := fun _ => some false) (fun k => ?_) (by rw [List.drop_eq_nil_of_le (by omega)]; exact Ev.now _)
  simp only [catenaryref09_Used.l0]
  rw [if_neg (by omega)]
 | d + 1, i, hi => by
  have hlt : i < l.length := by omega
  have hx := hf.2 l[i] (List.getElem_mem hlt)
  have hs := st_len l[i]
  have hll := hf.1
  refine Ev.step (f := fun k => (catenaryref04_Has.f k (st l[i]) n).bind fun t => if t = true then some true else catenaryref09_Used.l0 k l n ((i + 1 : Nat) : Int)) (fun k => ?_) (Ev.bind (has_ev (st l[i]) n (by omega)) ?_)
  ·simp only [catenaryref09_Used.l0]
   rw [if_pos (by omega), if_pos (by omega), rdT_at l i hlt, stands_f l[i] (by omega), wsucc i (by omega)]
   rfl
  ·rw [List.drop_eq_getElem_cons hlt]
   unfold us
   rw [List.any_cons]
   cases (st l[i]).contains n with
   | true => simp only [if_true, Bool.true_or]; exact Ev.now _
   | false => simp only [Bool.false_eq_true, if_false, Bool.false_or]; exact rused_l0 l n hf d (i + 1) (by omega)
theorem rused_ev (l : List S54) (n : Int) (hf : Few l) : Ev (fun k => catenaryref09_Used.f k l n) (us l n) := by
 have := rused_l0 l n hf l.length 0 (by omega)
 simpa [catenaryref09_Used.f] using this
theorem same_l0 (a b : List Int) (hl : a.length = b.length) (ha : a.length ≤ 100000) : ∀ (d i : Nat), i + d = a.length → Ev (fun k => catenaryref04_Same.l0 k a b (i : Int)) (a.drop i == b.drop i)
 | 0, i, hi => by
  refine Ev.step (f := fun _ => some true) (fun k => ?_) (by rw [List.drop_eq_nil_of_le (show a.length ≤ i by omega), List.drop_eq_nil_of_le (show b.length ≤ i by omega)]; exact Ev.now _)
  simp only [catenaryref04_Same.l0]
  rw [if_neg (by omega)]
 | d + 1, i, hi => by
  have h1 : i < a.length := by omega
  have h2 : i < b.length := by omega
  rw [List.drop_eq_getElem_cons h1, List.drop_eq_getElem_cons h2]
  by_cases h : a[i] = b[i]
  ·refine Ev.step (f := fun k => catenaryref04_Same.l0 k a b ((i + 1 : Nat) : Int)) (fun k => ?_) ?_
   ·simp only [catenaryref04_Same.l0]
    rw [if_pos (by omega), if_pos (by omega), if_pos (by omega), rd_at a i h1, rd_at b i h2, if_pos h, wsucc i (by omega)]
   ·have := same_l0 a b hl ha d (i + 1) (by omega)
    rw [List.cons_beq_cons, h, beq_self_eq_true, Bool.true_and]
    exact this
  ·refine Ev.step (f := fun _ => some false) (fun k => ?_) (by rw [List.cons_beq_cons, show (a[i] == b[i]) = false by simp [h], Bool.false_and]; exact Ev.now _)
   simp only [catenaryref04_Same.l0]
   rw [if_pos (by omega), if_pos (by omega), if_pos (by omega), rd_at a i h1, rd_at b i h2, if_neg h]
theorem same_ev (a b : List Int) (ha : a.length ≤ 100000) : Ev (fun k => catenaryref04_Same.f k a b) (a == b) := by
 by_cases hl : a.length = b.length
 ·have := same_l0 a b hl ha a.length 0 (by omega)
  refine Ev.congr (f := fun k => catenaryref04_Same.l0 k a b ((0 : Nat) : Int)) (fun k => by simp only [catenaryref04_Same.f]; rw [if_pos (by omega)]; rfl) (by simpa using this)
 ·have e : (a == b) = false := by simp; exact fun h => hl (by rw [h])
  rw [e]
  exact Ev.congr (f := fun _ => some false) (fun k => by simp only [catenaryref04_Same.f]; rw [if_neg (by omega)]) (Ev.now _)
def sm (x y : S54) : Bool := decide (x.f0 = y.f0) && (decide (x.f1 = y.f1) && ((x.f3 == y.f3) && (decide (x.f4 = y.f4) && (x.f2 == y.f2))))
theorem sm_self (x : S54) : sm x x = true := by simp [sm]
theorem rsame_ev (x y : S54) (hl : x.f2.length ≤ 100000) : Ev (fun k => catenaryref09_Same.f k x.f0 x.f1 x.f2 x.f3 x.f4 y.f0 y.f1 y.f2 y.f3 y.f4) (sm x y) := by
 unfold sm
 by_cases h0 : x.f0 = y.f0
 ·by_cases h1 : x.f1 = y.f1
  ·by_cases h3 : (x.f3 == y.f3) = true
   ·by_cases h4 : x.f4 = y.f4
    ·refine Ev.congr (f := fun k => catenaryref04_Same.f k x.f2 y.f2) (fun k => ?_) (by rw [decide_eq_true h0, decide_eq_true h1, h3, decide_eq_true h4]; simpa using same_ev x.f2 y.f2 hl)
     simp only [catenaryref09_Same.f]
     rw [if_pos h0, if_pos h1, if_pos h3, if_pos h4]
     cases catenaryref04_Same.f k x.f2 y.f2 <;> rfl
    ·refine Ev.congr (f := fun _ => some false) (fun k => by simp only [catenaryref09_Same.f]; rw [if_pos h0, if_pos h1, if_pos h3, if_neg h4]) (by rw [decide_eq_false h4]; simpa using Ev.now false)
   ·refine Ev.congr (f := fun _ => some false) (fun k => by simp only [catenaryref09_Same.f]; rw [if_pos h0, if_pos h1, if_neg h3]) (by rw [show (x.f3 == y.f3) = false by simpa using h3]; simpa using Ev.now false)
  ·refine Ev.congr (f := fun _ => some false) (fun k => by simp only [catenaryref09_Same.f]; rw [if_pos h0, if_neg h1]) (by rw [decide_eq_false h1]; simpa using Ev.now false)
 ·refine Ev.congr (f := fun _ => some false) (fun k => by simp only [catenaryref09_Same.f]; rw [if_neg h0]) (by rw [decide_eq_false h0]; simpa using Ev.now false)
theorem sameall_l0 (l : List S54) (hf : Few l) : ∀ (d i : Nat), i + d = l.length → Ev (fun k => catenaryref09_SameAll.l0 k l l (i : Int)) true
 | 0, i, hi => Ev.step (f := fun _ => some true) (fun k => by simp only [catenaryref09_SameAll.l0]; rw [if_neg (by omega)]) (Ev.now _)
 | d + 1, i, hi => by
  have hlt : i < l.length := by omega
  have hx := hf.2 l[i] (List.getElem_mem hlt)
  have hll := hf.1
  refine Ev.step (f := fun k => (catenaryref09_Same.f k l[i].f0 l[i].f1 l[i].f2 l[i].f3 l[i].f4 l[i].f0 l[i].f1 l[i].f2 l[i].f3 l[i].f4).bind fun t => if t = true then catenaryref09_SameAll.l0 k l l ((i + 1 : Nat) : Int) else some false) (fun k => ?_) (Ev.bind (rsame_ev l[i] l[i] (by omega)) ?_)
  ·simp only [catenaryref09_SameAll.l0]
   rw [if_pos (by omega), if_pos (by omega), if_pos (by omega), rdT_at l i hlt, wsucc i (by omega)]
  ·rw [sm_self]
   simp only [if_true]
   exact sameall_l0 l hf d (i + 1) (by omega)
theorem sameall_ev (l : List S54) (hf : Few l) : Ev (fun k => catenaryref09_SameAll.f k l l) true := by
 have := sameall_l0 l hf l.length 0 (by omega)
 exact Ev.congr (f := fun k => catenaryref09_SameAll.l0 k l l ((0 : Nat) : Int)) (fun k => by simp only [catenaryref09_SameAll.f]; rw [if_pos trivial]; rfl) this
theorem copy_l0 (l : List S54) (hf : Few l) : ∀ (d i : Nat) (o : List S54), i + d = l.length → o.length = l.length → o.take i = l.take i → Ev (fun k => conf_Copy.l0 k o l (l.length : Int) (i : Int)) l
 | 0, i, o, hi, ho, ht => by
  have e : o = l := by
   have h1 := List.take_of_length_le (show o.length ≤ i by omega)
   have h2 := List.take_of_length_le (show l.length ≤ i by omega)
   rw [h1, h2] at ht
   exact ht
  exact Ev.step (f := fun _ => some l) (fun k => by simp only [conf_Copy.l0]; rw [if_neg (by omega), e]) (Ev.now _)
 | d + 1, i, o, hi, ho, ht => by
  have hlt : i < l.length := by omega
  have hx := hf.2 l[i] (List.getElem_mem hlt)
  have hll := hf.1
  refine Ev.step (f := fun k => conf_Copy.l0 k (o.set i l[i]) l (l.length : Int) ((i + 1 : Nat) : Int)) (fun k => ?_) ?_
  ·simp only [conf_Copy.l0, conf_own.f, slices_Clone_int_int.f]
   rw [if_pos (by omega), if_pos (by omega), if_pos (by omega), rdT_at l i hlt, if_pos (by omega)]
   simp only [Option.bind_some]
   rw [if_pos (by omega), wsucc i (by omega), Int.toNat_natCast]
  ·refine copy_l0 l hf d (i + 1) (o.set i l[i]) (by omega) (by simpa using ho) ?_
   rw [List.take_add_one, List.take_add_one, List.getElem?_set_self (by omega), List.getElem?_eq_getElem hlt, List.take_set_of_le (Nat.le_refl i), ht]
theorem copy_ev (l : List S54) (hf : Few l) : Ev (fun k => conf_Copy.f k l) l := by
 have := copy_l0 l hf l.length 0 (List.replicate l.length z54) (by omega) (by simp) (by simp)
 have hll := hf.1
 refine Ev.congr (f := fun k => conf_Copy.l0 k (List.replicate l.length z54) l (l.length : Int) ((0 : Nat) : Int)) (fun k => ?_) this
 simp only [conf_Copy.f]
 rw [if_pos (by omega), Int.toNat_natCast, if_pos (by omega)]
 rfl
theorem without_l0 (l : List Int) (x : Int) (hl : l.length ≤ 100000) : ∀ (d i : Nat) (o : List Int), i + d = l.length → o.length ≤ i → Ev (fun k => catenaryref04_Without.l0 k l x o (i : Int)) (o ++ (l.drop i).filter fun y => !(y == x))
 | 0, i, o, hi, ho => by
  refine Ev.step (f := fun _ => some o) (fun k => by simp only [catenaryref04_Without.l0]; rw [if_neg (by omega)]) (by rw [List.drop_eq_nil_of_le (by omega)]; simpa using Ev.now o)
 | d + 1, i, o, hi, ho => by
  have hlt : i < l.length := by omega
  rw [List.drop_eq_getElem_cons hlt]
  by_cases h : l[i] = x
  ·refine Ev.step (f := fun k => catenaryref04_Without.l0 k l x o ((i + 1 : Nat) : Int)) (fun k => ?_) ?_
   ·simp only [catenaryref04_Without.l0]
    rw [if_pos (by omega), if_pos (by omega), rd_at l i hlt, if_pos h, wsucc i (by omega)]
   ·rw [List.filter_cons_of_neg (by simp [h])]
    exact without_l0 l x hl d (i + 1) o (by omega) (by omega)
  ·refine Ev.step (f := fun k => catenaryref04_Without.l0 k l x (o ++ [l[i]]) ((i + 1 : Nat) : Int)) (fun k => ?_) ?_
   ·simp only [catenaryref04_Without.l0]
    rw [if_pos (by omega), if_pos (by omega), rd_at l i hlt, if_neg h, if_pos (by omega), wsucc i (by omega)]
   ·have := without_l0 l x hl d (i + 1) (o ++ [l[i]]) (by omega) (by simp; omega)
    rw [List.filter_cons_of_pos (by simp [h])]
    simpa using this
theorem without_ev (l : List Int) (x : Int) (hl : l.length ≤ 100000) : Ev (fun k => catenaryref04_Without.f k l x) (l.filter fun y => !(y == x)) := by
 have := without_l0 l x hl l.length 0 [] (by omega) (by simp)
 simpa [catenaryref04_Without.f] using this
def cn1 (l : List S54) (x : S54) (c0 n : Int) : Int :=
 if c0 = 1 then (if (st x).contains n = true then (if (sd x).any (fun y => y != n) = true then 0 else 12) else 7)
 else if c0 = 2 then (if us l n = true then 8 else if x.f4 ≠ 0 ∨ x.f3 = true then 12 else if x.f2.length ≥ 5 then 9 else 0)
 else if c0 = 3 then (if x.f4 = n then (if x.f2.length ≥ 5 then 9 else 0) else 7)
 else (if x.f3 = true ∧ rd x.f2 ((x.f2.length - 1 : Nat) : Int) = n then 0 else 7)
def cn (l : List S54) (c0 c1 c2 c3 : Int) : Int :=
 if al l = true then (if chk ⟨c0, c1, c2, c3⟩ = 0 then (if c0 = 0 then 0 else if c1 ≥ (l.length : Int) then 7 else
  if (rd_T54 l c1).f1 = c2 then (if cn1 l (rd_T54 l c1) c0 c3 = 0 then (if (rd_T54 l c1).f1 = 18446744073709551615 then 9 else 0) else cn1 l (rd_T54 l c1) c0 c3) else 10) else chk ⟨c0, c1, c2, c3⟩) else 1
theorem last_f (x : S54) (h1 : 1 ≤ x.f2.length) (hl : x.f2.length ≤ 10000) : conf_last.f x.f0 x.f1 x.f2 x.f3 x.f4 = some (rd x.f2 ((x.f2.length - 1 : Nat) : Int)) := by
 unfold conf_last.f
 rw [wpred _ h1 (by omega), if_pos (by omega), if_pos (by omega)]
theorem any_filter (l : List Int) (n : Int) : (l.any fun y => y != n) = decide (((l.filter fun y => !(y == n)).length : Int) ≠ 0) := by
 induction l with
 | nil => rfl
 | cons a r ih =>
  by_cases h : a = n
  ·rw [List.any_cons, ih, List.filter_cons_of_neg (by simp [h])]
   simp [h]
  ·rw [List.any_cons, List.filter_cons_of_pos (by simp [h]), show (a != n) = true by simp [h], Bool.true_or, List.length_cons]
   exact (decide_eq_true (by omega)).symm
theorem rulecan_ev (l : List S54) (x : S54) (c0 n : Int) (hf : Few l) (h1 : 1 ≤ x.f2.length) (hl : x.f2.length ≤ 100) : Ev (fun k => ruleCan k c0 l x n) (cn1 l x c0 n) := by
 have hs := st_len x
 unfold ruleCan cn1
 by_cases e1 : c0 = 1
 ·simp only [if_pos e1]
  refine Ev.congr (f := fun k => (slices_Contains_int_int.f k (st x) n).bind fun b => if b = true then some (if (sd x).any (fun y => y != n) = true then 0 else 12) else some 7) (fun k => ?_) (Ev.bind (contains_ev (st x) n (by omega)) ?_)
  ·unfold conf_canRemove.f
   rw [every_f x (by omega), Option.bind_some, settled_f x h1 (by omega)]
   rfl
  ·cases (st x).contains n with
   | true => simp only [if_true]; exact Ev.now _
   | false => simp only [Bool.false_eq_true, if_false]; exact Ev.now _
 ·simp only [if_neg e1]
  by_cases e2 : c0 = 2
  ·simp only [if_pos e2]
   refine Ev.bind (g := fun k => conf_Used.f k l n) (used_ev n l hf) ?_
   cases us l n with
   | true => simp only [if_true]; exact Ev.now _
   | false =>
    simp only [Bool.false_eq_true, if_false]
    have j0 : ∀ b : Bool, Ev (fun k => conf_canAppend.j0 k b x.f0 x.f1 x.f2 x.f3 x.f4) (if b = true then 12 else if x.f2.length ≥ 5 then 9 else 0) := fun b => by
     refine Ev.step (f := fun _ => if b = true then some 12 else if (x.f2.length : Int) ≥ 5 then some 9 else some 0) (fun k => by simp only [conf_canAppend.j0]) ?_
     cases b with
     | true => simp only [if_true]; exact Ev.now _
     | false =>
      simp only [Bool.false_eq_true, if_false]
      by_cases h5 : x.f2.length ≥ 5
      ·rw [if_pos h5, if_pos (by omega)]; exact Ev.now _
      ·rw [if_neg h5, if_neg (by omega)]; exact Ev.now _
    by_cases h4 : x.f4 = 0
    ·simp only [if_pos h4]
     have := j0 x.f3
     simpa [h4] using this
    ·simp only [if_neg h4]
     have := j0 true
     simpa [h4] using this
  ·simp only [if_neg e2]
   by_cases e3 : c0 = 3
   ·simp only [if_pos e3, conf_canPromote.f]
    by_cases h4 : x.f4 = n
    ·simp only [if_pos h4]
     by_cases h5 : x.f2.length ≥ 5
     ·rw [if_pos h5, if_pos (by omega)]; exact Ev.now _
     ·rw [if_neg h5, if_neg (by omega)]; exact Ev.now _
    ·simp only [if_neg h4]; exact Ev.now _
   ·simp only [if_neg e3]
    unfold conf_canSettle.f
    rw [last_f x h1 (by omega)]
    cases h3 : x.f3 with
    | true =>
     simp only [if_true, Option.bind_some, true_and]
     by_cases h6 : rd x.f2 ((x.f2.length - 1 : Nat) : Int) = n
     ·simp only [if_pos h6]; exact Ev.now _
     ·simp only [if_neg h6]; exact Ev.now _
    | false => simp only [Bool.false_eq_true, if_false, false_and]; exact Ev.now _
theorem rcan_ev (l : List S54) (x : S54) (c0 c1 c2 n : Int) (hf : Few l) (hx : rt x = true) (h1 : 0 ≤ x.f1) (hk : 1 ≤ c0 ∧ c0 ≤ 4) : Ev (fun k => catenaryref09_can.f k l x.f0 x.f1 x.f2 x.f3 x.f4 c0 c1 c2 n) (if cn1 l x c0 n = 0 then (if x.f1 = 18446744073709551615 then 9 else 0) else cn1 l x c0 n) := by
 obtain ⟨hp, hq, _⟩ := rt_len hx
 have hs := st_len x
 have hd : (sd x).length ≤ 5 := by
  unfold sd
  split
  ·rw [List.length_take]; omega
  ·omega
 unfold catenaryref09_can.f cn1
 rw [wpred _ hp (by omega)]
 simp only [if_pos (show (0 : Int) ≤ ((x.f2.length - 1 : Nat) : Int) by omega), if_pos (show ((x.f2.length - 1 : Nat) : Int) < (x.f2.length : Int) by omega)]
 by_cases e1 : c0 = 1
 ·simp only [if_pos e1]
  refine Ev.congr (f := fun k => (catenaryref04_Has.f k (st x) n).bind fun t261 => (if t261 = true then ((catenaryref09_Settled.f k x.f0 x.f1 x.f2 x.f3 x.f4).bind fun t262 => ((catenaryref04_Without.f k t262 n).bind fun t265 => (if (t265.length : Int) = 0 then (some 12) else (if x.f1 = 18446744073709551615 then (some 9) else (some 0))))) else (some 7))) (fun k => by rw [stands_f x (by omega)]; rfl) (Ev.bind (has_ev (st x) n (by omega)) ?_)
  cases (st x).contains n with
  | true =>
   simp only [if_true]
   refine Ev.bind (rsettled_ev x (by omega) h1) ?_
   rw [if_pos hx]
   refine Ev.bind (without_ev (sd x) n (by omega)) ?_
   have ha := any_filter (sd x) n
   by_cases h0 : (((sd x).filter fun y => !(y == n)).length : Int) = 0
   ·rw [if_pos h0]
    rw [decide_eq_false (by simpa using h0)] at ha
    rw [ha]
    exact Ev.now _
   ·rw [if_neg h0]
    rw [decide_eq_true h0] at ha
    rw [ha]
    simp only [if_true]
    by_cases hm : x.f1 = 18446744073709551615
    ·rw [if_pos hm, if_pos hm]; exact Ev.now _
    ·rw [if_neg hm, if_neg hm]; exact Ev.now _
  | false => simp only [Bool.false_eq_true, if_false]; exact Ev.now _
 ·simp only [if_neg e1]
  by_cases e2 : c0 = 2
  ·simp only [if_pos e2]
   refine Ev.bind (rused_ev l n hf) ?_
   cases us l n with
   | true => simp only [if_true]; exact Ev.now _
   | false =>
    simp only [Bool.false_eq_true, if_false]
    have j0 : ∀ b : Bool, Ev (fun k => catenaryref09_can.j0 k b x.f0 x.f1 x.f2 x.f3 x.f4) (if b = true then 12 else if x.f2.length ≥ 5 then 9 else if x.f1 = 18446744073709551615 then 9 else 0) := fun b => by
     refine Ev.step (f := fun _ => if b = true then some 12 else if (x.f2.length : Int) = 5 then some 9 else if x.f1 = 18446744073709551615 then some 9 else some 0) (fun k => by simp only [catenaryref09_can.j0]) ?_
     cases b with
     | true => simp only [if_true]; exact Ev.now _
     | false =>
      simp only [Bool.false_eq_true, if_false]
      by_cases h5 : x.f2.length ≥ 5
      ·rw [if_pos h5, if_pos (by omega)]; exact Ev.now _
      ·rw [if_neg h5, if_neg (by omega)]
       by_cases hm : x.f1 = 18446744073709551615
       ·rw [if_pos hm, if_pos hm]; exact Ev.now _
       ·rw [if_neg hm, if_neg hm]; exact Ev.now _
    by_cases h4 : x.f4 = 0
    ·simp only [if_pos h4]
     have := j0 x.f3
     cases h3 : x.f3 with
     | true => rw [h3] at this; simpa [h4] using this
     | false =>
      rw [h3] at this
      by_cases h5 : x.f2.length ≥ 5
      ·simpa [h4, h5] using this
      ·simpa [h4, h5] using this
    ·simp only [if_neg h4]
     have := j0 true
     simpa [h4] using this
  ·simp only [if_neg e2]
   by_cases e3 : c0 = 3
   ·simp only [if_pos e3]
    by_cases h4 : x.f4 = n
    ·simp only [if_pos h4]
     by_cases h5 : x.f2.length ≥ 5
     ·simp only [if_pos h5, if_pos (show (x.f2.length : Int) = 5 by omega)]; exact Ev.now _
     ·simp only [if_neg h5, if_neg (show ¬ (x.f2.length : Int) = 5 by omega), if_true]
      by_cases hm : x.f1 = 18446744073709551615
      ·rw [if_pos hm, if_pos hm]; exact Ev.now _
      ·rw [if_neg hm, if_neg hm]; exact Ev.now _
    ·simp only [if_neg h4]; exact Ev.now _
   ·simp only [if_neg e3]
    have j1 : ∀ b : Bool, Ev (fun k => catenaryref09_can.j1 k b x.f0 x.f1 x.f2 x.f3 x.f4) (if b = true then 7 else if x.f1 = 18446744073709551615 then 9 else 0) := fun b => by
     refine Ev.step (f := fun _ => if b = true then some 7 else if x.f1 = 18446744073709551615 then some 9 else some 0) (fun k => by simp only [catenaryref09_can.j1]) ?_
     cases b with
     | true => simp only [if_true]; exact Ev.now _
     | false =>
      simp only [Bool.false_eq_true, if_false]
      by_cases hm : x.f1 = 18446744073709551615
      ·rw [if_pos hm, if_pos hm]; exact Ev.now _
      ·rw [if_neg hm, if_neg hm]; exact Ev.now _
    cases h3 : x.f3 with
    | true =>
     simp only [if_true, true_and]
     by_cases h6 : rd x.f2 ((x.f2.length - 1 : Nat) : Int) = n
     ·have := j1 false
      rw [h3] at this
      simpa [h6] using this
     ·have := j1 true
      rw [h3] at this
      rw [show (rd x.f2 ((x.f2.length - 1 : Nat) : Int) != n) = true by simp [h6]]
      simpa [h6] using this
    | false =>
     have := j1 true
     rw [h3] at this
     simpa using this
theorem alF_at : ∀ (l : List S54) (i : Nat) (acc : List Int), alF i acc l = true → ∀ (j : Nat) (h : j < l.length), rt l[j] = true ∧ l[j].f0 = ((i + j : Nat) : Int)
 | [], i, acc, _, j, h => absurd h (by simp)
 | x :: r, i, acc, h, j, hj => by
  rw [alF] at h
  split at h
  ·rename_i h0
   split at h
   ·rename_i h1
    cases j with
    | zero => exact ⟨h1, h0⟩
    | succ j =>
     have := alF_at r (i + 1) _ h j (by simpa using hj)
     refine ⟨this.1, ?_⟩
     rw [show i + (j + 1) = i + 1 + j by omega]
     exact this.2
   ·cases h
  ·cases h
theorem al_at {l : List S54} (h : al l = true) (j : Nat) (hj : j < l.length) : rt l[j] = true := by
 unfold al at h
 rw [Bool.and_eq_true] at h
 exact (alF_at l 0 [] h.2 j hj).1
theorem chk_kind {c : C} (h : chk c = 0) (h0 : c.kind ≠ 0) : (1 ≤ c.kind ∧ c.kind ≤ 4) ∧ 0 ≤ c.chain := by
 unfold chk at h
 split at h
 ·cases h
 ·split at h
  ·rename_i e1 e2
   first | exact absurd e2 h0 | cases h
  ·first | omega | (split at h <;> first | omega | cases h)
theorem can_ev (l : List S54) (c0 c1 c2 c3 : Int) (hf : Few l) : Ev (fun k => conf_Can.f k l c0 c1 c2 c3) (cn l c0 c1 c2 c3) := by
 unfold cn
 refine Ev.bind (all_ev l hf) ?_
 cases ha : al l with
 | false => simp only [if_true, Bool.false_eq_true, if_false]; exact Ev.now _
 | true =>
  simp only [Bool.true_eq_false, if_false, if_true]
  refine Ev.bind (g := fun _ => cmds_Check.f c0 c1 c2 c3) (f := fun k x => if x ≠ 0 then some x else if c0 = 0 then some x else if c1 ≥ (l.length : Int) then some 7 else if 0 ≤ c1 then if (rd_T54 l c1).f1 ≠ c2 then some 10 else (ruleCan k c0 l (rd_T54 l c1) c3).bind fun e => if e ≠ 0 then some e else if (rd_T54 l c1).f1 = 18446744073709551615 then some 9 else some 0 else none) (a := chk ⟨c0, c1, c2, c3⟩) (Ev.now _) ?_
  by_cases hc : chk ⟨c0, c1, c2, c3⟩ = 0
  ·simp only [hc, ne_eq, not_true_eq_false, if_false, if_true]
   by_cases h0 : c0 = 0
   ·simp only [if_pos h0]; exact Ev.now _
   ·have hk := chk_kind hc h0
    simp only at hk
    simp only [if_neg h0]
    by_cases h7 : c1 ≥ (l.length : Int)
    ·simp only [if_pos h7]; exact Ev.now _
    ·obtain ⟨j, rfl⟩ := Int.eq_ofNat_of_zero_le hk.2
     have hj : j < l.length := by omega
     have hx := hf.2 l[j] (List.getElem_mem hj)
     have hp := rt_len (al_at ha j hj)
     simp only [if_neg h7, if_pos hk.2]
     rw [show rd_T54 l (j : Int) = l[j] from rdT_at l j hj]
     by_cases he : l[j].f1 = c2
     ·simp only [he, not_true_eq_false, if_false, if_true]
      refine Ev.bind (rulecan_ev l l[j] c0 c3 hf hp.1 (by omega)) ?_
      rw [← he]
      by_cases hz : cn1 l l[j] c0 c3 = 0
      ·simp only [hz, ne_eq, not_true_eq_false, if_false, if_true]
       by_cases hm : l[j].f1 = 18446744073709551615
       ·simp only [if_pos hm]; exact Ev.now _
       ·simp only [if_neg hm]; exact Ev.now _
      ·simp only [if_neg hz, ne_eq, hz, not_false_eq_true, if_true]; exact Ev.now _
     ·simp only [he, not_false_eq_true, if_true, if_false]; exact Ev.now _
  ·simp only [ne_eq, hc, not_false_eq_true, if_true, if_false]; exact Ev.now _
theorem rcanall_ev (l : List S54) (c0 c1 c2 c3 : Int) (hf : Few l) (h2 : 0 ≤ c2) : Ev (fun k => catenaryref09_Can.f k l c0 c1 c2 c3) (cn l c0 c1 c2 c3) := by
 unfold cn
 refine Ev.bind (rall_ev l hf) ?_
 cases ha : al l with
 | false => simp only [Bool.false_eq_true, if_false]; exact Ev.now _
 | true =>
  simp only [if_true]
  refine Ev.bind (g := fun _ => catenaryref08_Check.f c0 c1 c2 c3) (f := fun k t271 => (if t271 = 0 then (if c0 = 0 then (some 0) else (if c1 ≥ (l.length : Int) then (some 7) else (if 0 ≤ c1 then (if c1 < (l.length : Int) then (if ((rd_T54 l c1).f1) = c2 then ((catenaryref09_can.f k l ((rd_T54 l c1).f0) ((rd_T54 l c1).f1) ((rd_T54 l c1).f2) ((rd_T54 l c1).f3) ((rd_T54 l c1).f4) c0 c1 c2 c3).bind fun t274 => (some t274)) else (some 10)) else (none)) else (none)))) else (some t271))) (a := chk ⟨c0, c1, c2, c3⟩) (by unfold catenaryref08_Check.f; simp only [if_pos h2]; exact Ev.now _) ?_
  by_cases hc : chk ⟨c0, c1, c2, c3⟩ = 0
  ·simp only [hc, if_true]
   by_cases h0 : c0 = 0
   ·simp only [if_pos h0]; exact Ev.now _
   ·have hk := chk_kind hc h0
    simp only at hk
    simp only [if_neg h0]
    by_cases h7 : c1 ≥ (l.length : Int)
    ·simp only [if_pos h7]; exact Ev.now _
    ·obtain ⟨j, rfl⟩ := Int.eq_ofNat_of_zero_le hk.2
     have hj : j < l.length := by omega
     have hx := hf.2 l[j] (List.getElem_mem hj)
     have hp := al_at ha j hj
     simp only [if_neg h7, if_pos hk.2, if_pos (show (j : Int) < (l.length : Int) by omega)]
     rw [show rd_T54 l (j : Int) = l[j] from rdT_at l j hj]
     by_cases he : l[j].f1 = c2
     ·simp only [if_pos he]
      refine Ev.congr (f := fun k => catenaryref09_can.f k l l[j].f0 l[j].f1 l[j].f2 l[j].f3 l[j].f4 c0 (j : Int) c2 c3) (fun k => by cases catenaryref09_can.f k l l[j].f0 l[j].f1 l[j].f2 l[j].f3 l[j].f4 c0 (j : Int) c2 c3 <;> rfl) ?_
      exact rcan_ev l l[j] c0 (j : Int) c2 c3 hf hp hx.2.1 hk.1
     ·simp only [if_neg he]; exact Ev.now _
  ·simp only [if_neg hc]; exact Ev.now _
def md (x : S54) (c0 n : Int) : S54 :=
 if c0 = 1 then (if x.f4 = n then ⟨x.f0, IntKind.u64.wrap (x.f1 + 1), x.f2, x.f3, 0⟩ else ⟨x.f0, IntKind.u64.wrap (x.f1 + 1), x.f2.filter (fun y => !(y == n)), x.f3 && (rd x.f2 ((x.f2.length - 1 : Nat) : Int) != n), x.f4⟩)
 else if c0 = 2 then ⟨x.f0, IntKind.u64.wrap (x.f1 + 1), x.f2, x.f3, n⟩
 else if c0 = 3 then ⟨x.f0, IntKind.u64.wrap (x.f1 + 1), x.f2 ++ [n], true, 0⟩
 else ⟨x.f0, IntKind.u64.wrap (x.f1 + 1), x.f2, false, x.f4⟩
theorem ruledo_f (x : S54) (c0 n : Int) (h1 : 1 ≤ x.f2.length) (hl : x.f2.length ≤ 1000) : ∃ y, ruleDo c0 x n = some y ∧ (⟨y.f0, IntKind.u64.wrap (y.f1 + 1), y.f2, y.f3, y.f4⟩ : S54) = md x c0 n := by
 unfold ruleDo md
 by_cases e1 : c0 = 1
 ·simp only [if_pos e1]
  by_cases h : x.f4 = n
  ·simp only [if_pos h]; exact ⟨_, rfl, rfl⟩
  ·simp only [if_neg h]
   rw [last_f x h1 (by omega)]
   exact ⟨_, rfl, rfl⟩
 ·simp only [if_neg e1]
  by_cases e2 : c0 = 2
  ·simp only [if_pos e2]; exact ⟨_, rfl, rfl⟩
  ·simp only [if_neg e2]
   by_cases e3 : c0 = 3
   ·simp only [if_pos e3, if_pos (show x.f2.length ≤ 1000000 by omega)]; exact ⟨_, rfl, rfl⟩
   ·simp only [if_neg e3]; exact ⟨_, rfl, rfl⟩
theorem madeof_ev (x : S54) (c0 n : Int) (h1 : 1 ≤ x.f2.length) (hl : x.f2.length ≤ 1000) : Ev (fun k => madeOf k x c0 n) (md x c0 n) := by
 unfold madeOf md
 simp only [if_pos (show x.f2.length ≤ 1000000 by omega)]
 by_cases e1 : c0 = 1
 ·simp only [if_pos e1]
  by_cases h : x.f4 = n
  ·simp only [if_pos h]; exact Ev.now _
  ·simp only [if_neg h, if_pos (show 0 < x.f2.length by omega)]
   refine Ev.bind (without_ev x.f2 n (by omega)) ?_
   rw [show ((x.f2.length : Int) - 1) = ((x.f2.length - 1 : Nat) : Int) by omega]
   by_cases h6 : rd x.f2 ((x.f2.length - 1 : Nat) : Int) = n
   ·rw [if_pos h6, show (rd x.f2 ((x.f2.length - 1 : Nat) : Int) != n) = false by simp [h6], Bool.and_false]
    exact Ev.now _
   ·rw [if_neg h6, show (rd x.f2 ((x.f2.length - 1 : Nat) : Int) != n) = true by simp [h6], Bool.and_true]
    exact Ev.now _
 ·simp only [if_neg e1]
  by_cases e2 : c0 = 2
  ·simp only [if_pos e2]; exact Ev.now _
  ·simp only [if_neg e2]
   by_cases e3 : c0 = 3
   ·simp only [if_pos e3]; exact Ev.now _
   ·simp only [if_neg e3]; exact Ev.now _
def doS (l : List S54) (c0 c1 c2 c3 : Int) : List S54 × Bool :=
 if cn l c0 c1 c2 c3 = 0 then (if c0 = 0 then (l, true) else (l.set c1.toNat (md (rd_T54 l c1) c0 c3), true)) else (l, false)
theorem cn_zero {l : List S54} {c0 c1 c2 c3 : Int} (h : cn l c0 c1 c2 c3 = 0) (h0 : c0 ≠ 0) : (1 ≤ c0 ∧ c0 ≤ 4) ∧ 0 ≤ c1 ∧ c1 < (l.length : Int) ∧ rt (rd_T54 l c1) = true := by
 unfold cn at h
 by_cases ha : al l = true
 ·rw [if_pos ha] at h
  by_cases hc : chk ⟨c0, c1, c2, c3⟩ = 0
  ·have hk := chk_kind hc h0
   simp only at hk
   rw [if_pos hc, if_neg h0] at h
   by_cases h7 : c1 ≥ (l.length : Int)
   ·rw [if_pos h7] at h; cases h
   ·obtain ⟨j, rfl⟩ := Int.eq_ofNat_of_zero_le hk.2
    have hj : j < l.length := by omega
    refine ⟨hk.1, hk.2, by omega, ?_⟩
    rw [show rd_T54 l (j : Int) = l[j] from rdT_at l j hj]
    exact al_at ha j hj
  ·rw [if_neg hc] at h
   exact absurd h hc
 ·rw [if_neg ha] at h; cases h
theorem do_ev (l : List S54) (c0 c1 c2 c3 : Int) (hf : Few l) : Ev (fun k => conf_Do.f k l c0 c1 c2 c3) (doS l c0 c1 c2 c3) := by
 unfold doS
 refine Ev.bind (copy_ev l hf) (Ev.bind (can_ev l c0 c1 c2 c3 hf) ?_)
 by_cases hz : cn l c0 c1 c2 c3 = 0
 ·simp only [hz, ne_eq, not_true_eq_false, if_false, if_true]
  by_cases h0 : c0 = 0
  ·simp only [if_pos h0]; exact Ev.now _
  ·obtain ⟨hk, h1, h2, hr⟩ := cn_zero hz h0
   have hp := rt_len hr
   obtain ⟨y, hy, he⟩ := ruledo_f (rd_T54 l c1) c0 c3 hp.1 (by omega)
   simp only [if_neg h0, if_pos (show (1 ≤ c0 ∧ c0 ≤ 4) ∧ 0 ≤ c1 ∧ c1 < (l.length : Int) from ⟨hk, h1, h2⟩), hy, Option.bind_some, he]
   exact Ev.now _
 ·simp only [hz, ne_eq, not_false_eq_true, if_true, if_false]; exact Ev.now _
theorem rdo_ev (l : List S54) (c0 c1 c2 c3 : Int) (hf : Few l) (h2 : 0 ≤ c2) : Ev (fun k => catenaryref09_Do.f k l c0 c1 c2 c3) (doS l c0 c1 c2 c3) := by
 unfold doS
 refine Ev.bind (rcanall_ev l c0 c1 c2 c3 hf h2) ?_
 by_cases hz : cn l c0 c1 c2 c3 = 0
 ·simp only [hz, if_true]
  by_cases h0 : c0 = 0
  ·simp only [if_pos h0]; exact Ev.now _
  ·obtain ⟨hk, h1, h3, hr⟩ := cn_zero hz h0
   have hp := rt_len hr
   have hll := hf.1
   simp only [if_neg h0, if_pos (show ([] : List S54).length + l.length < 2513169434916 by simp; omega), List.nil_append, Option.bind_some, if_pos h1, if_pos h3]
   refine Ev.bind (a := (md (rd_T54 l c1) c0 c3 |> fun r => (r.f0, r.f1, r.f2, r.f3, r.f4))) ?_ (Ev.now _)
   obtain ⟨K, hK⟩ := madeof_ev (rd_T54 l c1) c0 c3 hp.1 (by omega)
   exact ⟨K, fun k hk => by
    show ((madeOf k (rd_T54 l c1) c0 c3).map fun r => (r.f0, r.f1, r.f2, r.f3, r.f4)) = _
    rw [show madeOf k (rd_T54 l c1) c0 c3 = some (md (rd_T54 l c1) c0 c3) from hK k hk]
    rfl⟩
 ·simp only [hz, if_false]; exact Ev.now _
theorem bts_app (a b : List UInt8) : bts a ++ bts b = bts (a ++ b) := by
 apply ByteArray.ext
 simp [bts]
theorem bts_size (l : List UInt8) : (bts l).size = l.length := by simp [bts, ByteArray.size]
theorem tol (l : List UInt8) : (bts l).toList = l := by rw [Lib.toList_data, bts_list]
theorem dec_small (n : Nat) (h : n < 10) : Lib.decDigits n = [UInt8.ofNat (48 + n)] := by rw [Lib.decDigits, dif_pos h]
theorem dec_len (n : Nat) (h : n < 18446744073709551616) : (Lib.decDigits n).length ≤ 20 := (plain_parts _ (plain_dec n h)).2.2.2
theorem itoa_f (n : Int) (h0 : 0 ≤ n) (h1 : n < 1000000) : strconv_Itoa.f n = some (bts (Lib.decDigits n.toNat)) := if_pos ⟨h0, by omega⟩
theorem dl (n : Int) (h0 : 0 ≤ n) (h1 : n < 18446744073709551616) : (Lib.decDigits n.toNat).length ≤ 20 := dec_len _ (by omega)
def dn (n : Int) : List UInt8 := Lib.decDigits n.toNat
theorem unlF_in : ∀ (l p : List Int), unlF p l = true → ∀ y ∈ l, 1 ≤ y ∧ y ≤ 24
 | [], p, _, y, hy => absurd hy (by simp)
 | x :: r, p, h, y, hy => by
  rw [unlF] at h
  split at h
  ·rename_i h0
   split at h
   ·cases h
   ·rcases List.mem_cons.1 hy with rfl | hy
    ·exact h0
    ·exact unlF_in r _ h y hy
  ·cases h
theorem join_snoc (U : List (List UInt8)) (p : List UInt8) (h : U ≠ []) : Lib.join (U ++ [p]) [32] = Lib.join U [32] ++ 32 :: p := by
 cases U with
 | nil => exact absurd rfl h
 | cons a r => rw [List.cons_append, Lib.join_cons, Lib.join_cons]; simp [Lib.joinTail]
theorem join_star (U : List (List UInt8)) (h : 2 ≤ U.length) : Lib.join (U.set (U.length - 1) (U.getD (U.length - 1) [] ++ [42])) [32] = Lib.join U [32] ++ [42] := by
 obtain ⟨V, z, rfl⟩ : ∃ V z, U = V ++ [z] := ⟨U.dropLast, U.getLast (by intro e; rw [e] at h; simp at h), (List.dropLast_concat_getLast _).symm⟩
 have hV : V ≠ [] := by intro e; rw [e] at h; simp at h
 have e1 : (V ++ [z]).length - 1 = V.length := by simp
 rw [e1, List.set_append_right _ _ (Nat.le_refl _), Nat.sub_self, show (V ++ [z]).getD V.length [] = z by simp]
 show Lib.join (V ++ [z ++ [42]]) [32] = _
 rw [join_snoc V _ hV, join_snoc V _ hV]
 simp
def tl (x : S54) : List UInt8 := (if x.f3 = true then [42] else []) ++ (if x.f4 = 0 then [] else 32 :: 43 :: dn x.f4)
def hd (x : S54) : List UInt8 := [99, 104, 97, 105, 110, 32] ++ dn x.f0 ++ [32, 101, 112, 111, 99, 104, 32] ++ dn x.f1 ++ [58]
def tx (x : S54) : List UInt8 := hd x ++ Lib.joinTail [32] (x.f2.map dn) ++ tl x
theorem st_in {x : S54} (h : rt x = true) : (∀ y ∈ x.f2, 1 ≤ y ∧ y ≤ 24) ∧ (x.f4 = 0 ∨ 1 ≤ x.f4 ∧ x.f4 ≤ 24) := by
 have hu := unlF_in (st x) [] (rt_len h).2.2.2.2.2
 unfold st at hu
 by_cases h4 : x.f4 = 0
 ·rw [if_pos h4] at hu
  exact ⟨hu, .inl h4⟩
 ·rw [if_neg h4] at hu
  exact ⟨fun y hy => hu y (List.mem_append_left _ hy), .inr (hu x.f4 (by simp))⟩
theorem lens_le : ∀ U : List (List UInt8), (∀ u ∈ U, u.length ≤ 30) → Lib.lens U ≤ 30 * U.length
 | [], _ => by simp [Lib.lens]
 | u :: r, h => by
  have h1 := h u List.mem_cons_self
  have h2 := lens_le r (fun v hv => h v (List.mem_cons_of_mem _ hv))
  simp only [Lib.lens, List.map_cons, List.sum_cons, List.length_cons] at h2 ⊢
  omega
theorem join_len (U : List (List UInt8)) (h : ∀ u ∈ U, u.length ≤ 30) : (Lib.join U [32]).length ≤ 31 * U.length := by
 cases U with
 | nil => simp [Lib.join_nil]
 | cons a r =>
  have h1 := h a List.mem_cons_self
  have h2 := lens_le r (fun v hv => h v (List.mem_cons_of_mem _ hv))
  rw [Lib.join_cons, List.length_append, Lib.joinTail_length]
  simp only [List.length_cons, List.length_nil]
  omega
theorem join_f (U : List (List UInt8)) (h : ∀ u ∈ U, u.length ≤ 30) (hl : U.length ≤ 1000) : strings_Join.f (U.map bts) (⟨#[32]⟩ : ByteArray) = some (bts (Lib.join U [32])) := by
 have e : (U.map bts).map (·.data.toList) = U := by
  rw [List.map_map]
  conv => rhs; rw [← List.map_id U]
  exact List.map_congr_left fun u _ => bts_list u
 have hj := join_len U h
 unfold strings_Join.f
 rw [e]
 exact if_pos ⟨by simp; omega, Nat.le_trans hj (by omega)⟩
def w0 (x : S54) : List (List UInt8) := [[99, 104, 97, 105, 110], dn x.f0, [101, 112, 111, 99, 104], dn x.f1 ++ [58]]
theorem join_w0 (x : S54) (N : List (List UInt8)) : Lib.join (w0 x ++ N) [32] = hd x ++ Lib.joinTail [32] N := by
 unfold w0 hd
 rw [List.cons_append, Lib.join_cons]
 simp [Lib.joinTail, List.append_assoc]
theorem ctext_j1 (x : S54) (h4 : 0 ≤ x.f4 ∧ x.f4 ≤ 24) (U : List (List UInt8)) (hU : ∀ u ∈ U, u.length ≤ 29) (hl : U.length ≤ 100) (hne : U ≠ []) : Ev (fun k => conf_Text.j1 k (U.map bts) x.f0 x.f1 x.f2 x.f3 x.f4) (bts (Lib.join U [32] ++ (if x.f4 = 0 then [] else 32 :: 43 :: dn x.f4))) := by
 have hU' : ∀ u ∈ U, u.length ≤ 30 := fun u hu => Nat.le_succ_of_le (hU u hu)
 by_cases hz : x.f4 = 0
 ·rw [if_pos hz, List.append_nil]
  refine Ev.step (f := fun _ => some (bts (Lib.join U [32]))) (fun k => ?_) (Ev.now _)
  simp only [conf_Text.j1]
  rw [if_pos hz, join_f U hU' (by omega)]
  rfl
 ·have hd4 := dl x.f4 h4.1 (by omega)
  rw [if_neg hz]
  refine Ev.step (f := fun _ => some (bts (Lib.join (U ++ [43 :: dn x.f4]) [32]))) (fun k => ?_) (by rw [join_snoc U _ hne]; exact Ev.now _)
  have e : U.map bts ++ [(⟨#[43]⟩ : ByteArray) ++ bts (Lib.decDigits x.f4.toNat)] = (U ++ [43 :: dn x.f4]).map bts := by
   rw [List.map_append, show (⟨#[43]⟩ : ByteArray) = bts [43] from rfl, bts_app]
   rfl
  simp only [conf_Text.j1]
  rw [if_neg hz, itoa_f _ h4.1 (by omega)]
  simp only [Option.bind_some]
  rw [bts_size, if_pos (by omega), if_pos (by simp; omega), e, join_f _ (fun u hu => by
   rcases List.mem_append.1 hu with h | h
   ·exact hU' u h
   ·rw [List.mem_singleton.1 h]
    simp [dn]
    omega) (by simp; omega)]
  rfl
theorem ctext_l0 (x : S54) (hn : ∀ y ∈ x.f2, 1 ≤ y ∧ y ≤ 24) (hl : x.f2.length ≤ 5) (h4 : 0 ≤ x.f4 ∧ x.f4 ≤ 24) : ∀ (d i : Nat) (U : List (List UInt8)), i + d = x.f2.length → U.length = 4 + i → (∀ u ∈ U, u.length ≤ 28) →
  Ev (fun k => conf_Text.l0 k (U.map bts) x.f2 (x.f2.length : Int) (i : Int) x.f0 x.f1 x.f2 x.f3 x.f4) (bts (Lib.join (U ++ (x.f2.drop i).map dn) [32] ++ tl x))
 | 0, i, U, hi, hs, hU => by
  rw [List.drop_eq_nil_of_le (by omega)]
  simp only [List.map_nil, List.append_nil]
  have hne : U ≠ [] := by
   intro e
   rw [e, List.length_nil] at hs
   omega
  unfold tl
  cases h3 : x.f3 with
  | true =>
   have e : (U.map bts).set (U.length - 1) (rdOf ByteArray.empty (U.map bts) ((U.length - 1 : Nat) : Int) ++ (⟨#[42]⟩ : ByteArray)) = (U.set (U.length - 1) (U.getD (U.length - 1) [] ++ [42])).map bts := by
    have e2 : rdOf ByteArray.empty (U.map bts) ((U.length - 1 : Nat) : Int) = bts (U.getD (U.length - 1) []) := by
     simp [rdOf, List.getD_eq_getElem?_getD, List.getElem?_eq_getElem (show U.length - 1 < U.length by omega)]
    rw [e2, show (⟨#[42]⟩ : ByteArray) = bts [42] from rfl, bts_app, List.map_set]
   have hg : (U.getD (U.length - 1) []).length ≤ 28 := by
    rw [List.getD_eq_getElem?_getD, List.getElem?_eq_getElem (show U.length - 1 < U.length by omega)]
    exact hU _ (List.getElem_mem _)
   have e2 : rdOf ByteArray.empty (U.map bts) ((U.length - 1 : Nat) : Int) = bts (U.getD (U.length - 1) []) := by
    simp [rdOf, List.getD_eq_getElem?_getD, List.getElem?_eq_getElem (show U.length - 1 < U.length by omega)]
   have hj := ctext_j1 x h4 (U.set (U.length - 1) (U.getD (U.length - 1) [] ++ [42])) (fun u hu => by
    rcases List.mem_or_eq_of_mem_set hu with h | h
    ·exact Nat.le_succ_of_le (hU u h)
    ·rw [h, List.length_append, List.length_singleton]; omega) (by simp; omega) (by
    intro e
    have h9 := congrArg List.length e
    rw [List.length_set, List.length_nil] at h9
    omega)
   rw [join_star U (by omega)] at hj
   simp only [if_true]
   refine Ev.step (f := fun k => conf_Text.j1 k ((U.set (U.length - 1) (U.getD (U.length - 1) [] ++ [42])).map bts) x.f0 x.f1 x.f2 true x.f4) (fun k => ?_) ?_
   ·simp only [conf_Text.l0]
    rw [if_neg (by omega), if_pos trivial, List.length_map, wpred _ (by omega) (by omega), if_pos (by omega), if_pos (by omega), e2, bts_size, if_pos (by omega), Int.toNat_natCast, ← e2, e]
   ·rw [h3] at hj
    simpa [List.append_assoc] using hj
  | false =>
   have hj := ctext_j1 x h4 U (fun u hu => Nat.le_succ_of_le (hU u hu)) (by omega) hne
   refine Ev.step (f := fun k => conf_Text.j1 k (U.map bts) x.f0 x.f1 x.f2 false x.f4) (fun k => ?_) ?_
   ·simp only [conf_Text.l0]
    rw [if_neg (by omega), if_neg (by simp)]
   ·rw [h3] at hj
    simpa using hj
 | d + 1, i, U, hi, hs, hU => by
  have hlt : i < x.f2.length := by omega
  have hy := hn x.f2[i] (List.getElem_mem hlt)
  have hdl := dl x.f2[i] (by omega) (by omega)
  refine Ev.step (f := fun k => conf_Text.l0 k ((U ++ [dn x.f2[i]]).map bts) x.f2 (x.f2.length : Int) ((i + 1 : Nat) : Int) x.f0 x.f1 x.f2 x.f3 x.f4) (fun k => ?_) ?_
  ·simp only [conf_Text.l0]
   rw [if_pos (by omega), if_pos (by omega), if_pos (by omega), rd_at _ i hlt, itoa_f _ (by omega) (by omega)]
   simp only [Option.bind_some]
   rw [if_pos (by simp; omega), wsucc i (by omega), List.map_append]
   rfl
  ·have := ctext_l0 x hn hl h4 d (i + 1) (U ++ [dn x.f2[i]]) (by omega) (by simp; omega) (fun u hu => by
    rcases List.mem_append.1 hu with h | h
    ·exact hU u h
    ·rw [List.mem_singleton.1 h]
     unfold dn
     omega)
   rw [List.drop_eq_getElem_cons hlt, List.map_cons]
   simpa [List.append_assoc] using this
theorem ctext_ev (x : S54) (hl : x.f2.length ≤ 100) (h1 : 0 ≤ x.f1) (hm : x.f1 < 18446744073709551616) : Ev (fun k => conf_Text.f k x.f0 x.f1 x.f2 x.f3 x.f4) (bts (if rt x = true then tx x else [])) := by
 refine Ev.bind (right_ev x (by omega)) ?_
 cases hr : rt x with
 | false => simp only [Bool.false_eq_true, if_false]; exact Ev.now _
 | true =>
  have hp := rt_len hr
  have hn := st_in hr
  have a := dl x.f0 hp.2.2.1 (by omega)
  have b := dl x.f1 h1 hm
  simp only [if_true]
  rw [itoa_f _ hp.2.2.1 (by omega), show strconv_FormatUint.f x.f1 10 = some (bts (Lib.decDigits x.f1.toNat)) from if_pos ⟨rfl, h1, hm⟩]
  simp only [Option.bind_some]
  simp only [bts_size, if_pos (show (Lib.decDigits x.f1.toNat).length + 1 ≤ 9223372036854775807 by omega)]
  have := ctext_l0 x hn.1 hp.2.1 (by omega) x.f2.length 0 (w0 x) (by omega) rfl (fun u hu => by
   simp only [w0, List.mem_cons, List.mem_nil_iff, or_false] at hu
   rcases hu with rfl | rfl | rfl | rfl
   ·decide
   ·unfold dn; omega
   ·decide
   ·unfold dn; rw [List.length_append, List.length_singleton]; omega)
  rw [List.drop_zero, join_w0] at this
  have e : (w0 x).map bts = [(⟨#[99, 104, 97, 105, 110]⟩ : ByteArray), bts (Lib.decDigits x.f0.toNat), (⟨#[101, 112, 111, 99, 104]⟩ : ByteArray), bts (Lib.decDigits x.f1.toNat) ++ (⟨#[58]⟩ : ByteArray)] := by
   rw [show (⟨#[58]⟩ : ByteArray) = bts [58] from rfl, bts_app]
   rfl
  rw [e] at this
  exact this
theorem wsuccL (i : Nat) (h : i + 1 ≤ 9223372036854775807) : wrap64 ((i : Int) + 1) = ((i + 1 : Nat) : Int) := by unfold wrap64; omega
theorem few_l0 (l : List S54) (hl : l.length ≤ 9223372036854775807) : ∀ (d i : Nat), i + d = l.length → Ev (fun k => catenarylaw09_few.l0 k l (i : Int)) ((l.drop i).all (fun x => decide (x.f2.length ≤ 30)) && decide (l.length ≤ 6))
 | 0, i, hi => by
  refine Ev.step (f := fun _ => some (decide ((l.length : Int) ≤ 6))) (fun k => by simp only [catenarylaw09_few.l0]; rw [if_neg (by omega)]) ?_
  rw [List.drop_eq_nil_of_le (by omega), List.all_nil, Bool.true_and, show decide ((l.length : Int) ≤ 6) = decide (l.length ≤ 6) from decide_eq_decide.2 (by omega)]
  exact Ev.now _
 | d + 1, i, hi => by
  have hlt : i < l.length := by omega
  rw [List.drop_eq_getElem_cons hlt, List.all_cons]
  by_cases h : (l[i].f2.length : Int) > 30
  ·refine Ev.step (f := fun _ => some false) (fun k => by simp only [catenarylaw09_few.l0]; rw [if_pos (by omega), if_pos (by omega), rdT_at l i hlt, if_pos h]) ?_
   rw [decide_eq_false (show ¬ l[i].f2.length ≤ 30 by omega)]
   exact Ev.now _
  ·refine Ev.step (f := fun k => catenarylaw09_few.l0 k l ((i + 1 : Nat) : Int)) (fun k => by simp only [catenarylaw09_few.l0]; rw [if_pos (by omega), if_pos (by omega), rdT_at l i hlt, if_neg h, wsuccL i (by omega)]) ?_
   rw [decide_eq_true (show l[i].f2.length ≤ 30 by omega), Bool.true_and]
   exact few_l0 l hl d (i + 1) (by omega)
theorem few_ev (l : List S54) (hl : l.length ≤ 9223372036854775807) : Ev (fun k => catenarylaw09_few.f k l) (l.all (fun x => decide (x.f2.length ≤ 30)) && decide (l.length ≤ 6)) := by
 have := few_l0 l hl l.length 0 (by omega)
 simpa [catenarylaw09_few.f] using this
theorem dsm (n : Nat) (h : n < 10) : dn (n : Int) = [UInt8.ofNat (48 + n)] := by unfold dn; rw [Int.toNat_natCast]; exact dec_small n h
theorem awake_text : tx ⟨0, 3, [2], false, 5⟩ = [99, 104, 97, 105, 110, 32, 48, 32, 101, 112, 111, 99, 104, 32, 51, 58, 32, 50, 32, 43, 53] := by
 have a := dsm 0 (by decide)
 have b := dsm 3 (by decide)
 have c := dsm 2 (by decide)
 have d := dsm 5 (by decide)
 unfold tx hd tl
 simp only [List.map_cons, List.map_nil, Lib.joinTail]
 rw [show dn (0 : Int) = [UInt8.ofNat (48 + 0)] from a, show dn (3 : Int) = [UInt8.ofNat (48 + 3)] from b, show dn (2 : Int) = [UInt8.ofNat (48 + 2)] from c, show dn (5 : Int) = [UInt8.ofNat (48 + 5)] from d]
 rfl
theorem begin_ev : Ev (fun k => conf_Begin.f k 1 2) ([⟨0, 1, [1, 2], false, 0⟩], 0) := Ev.of (k := 20) (fun k => conf_Begin.mono _ _ k) (by kernel_rfl)
theorem few_one (x : S54) (h : x.f2.length ≤ 100) (h0 : 0 ≤ x.f1) (h1 : x.f1 < 18446744073709551616) : Few [x] := ⟨by simp, fun y hy => by rw [List.mem_singleton.1 hy]; exact ⟨h, h0, h1⟩⟩
theorem awake_ev : Ev (fun k => catenarylaw09_awake.f k) true := by
 refine Ev.bind begin_ev ?_
 refine Ev.bind (do_ev [⟨0, 1, [1, 2], false, 0⟩] 1 0 1 1 (few_one _ (by decide) (by decide) (by decide))) ?_
 rw [show doS [⟨0, 1, [1, 2], false, 0⟩] 1 0 1 1 = ([⟨0, 2, [2], false, 0⟩], true) from rfl]
 refine Ev.bind (do_ev [⟨0, 2, [2], false, 0⟩] 2 0 2 5 (few_one _ (by decide) (by decide) (by decide))) ?_
 rw [show doS [⟨0, 2, [2], false, 0⟩] 2 0 2 5 = ([⟨0, 3, [2], false, 5⟩], true) from rfl]
 simp only [if_true]
 have ht := ctext_ev ⟨0, 3, [2], false, 5⟩ (by decide) (by decide) (by decide)
 rw [show rt ⟨0, 3, [2], false, 5⟩ = true from rfl, if_pos rfl, awake_text] at ht
 refine Ev.bind (f := fun _ t203 => some (t203.toList == ([99, 104, 97, 105, 110, 32, 48, 32, 101, 112, 111, 99, 104, 32, 51, 58, 32, 50, 32, 43, 53] : List UInt8))) ht ?_
 rw [tol]
 exact Ev.now _
theorem md_few (x : S54) (c0 n : Int) (m : Nat) (h : x.f2.length ≤ m) : (md x c0 n).f2.length ≤ m + 1 ∧ 0 ≤ (md x c0 n).f1 ∧ (md x c0 n).f1 < 18446744073709551616 := by
 have hw : 0 ≤ IntKind.u64.wrap (x.f1 + 1) ∧ IntKind.u64.wrap (x.f1 + 1) < 18446744073709551616 := by rw [IntKind.wrap_u64]; omega
 have hfl := List.length_filter_le (fun y => !(y == n)) x.f2
 unfold md
 split
 ·split
  ·exact ⟨by show x.f2.length ≤ _; omega, hw⟩
  ·exact ⟨by show (x.f2.filter _).length ≤ _; omega, hw⟩
 ·split
  ·exact ⟨by show x.f2.length ≤ _; omega, hw⟩
  ·split
   ·exact ⟨by show (x.f2 ++ [n]).length ≤ _; rw [List.length_append, List.length_singleton]; omega, hw⟩
   ·exact ⟨by show x.f2.length ≤ _; omega, hw⟩
def Fw (m : Nat) (l : List S54) : Prop := l.length ≤ 6 ∧ ∀ x ∈ l, x.f2.length ≤ 30 + m ∧ 0 ≤ x.f1 ∧ x.f1 < 18446744073709551616
theorem fw_few {m : Nat} {l : List S54} (h : Fw m l) (hm : m ≤ 40) : Few l := ⟨by have := h.1; omega, fun x hx => ⟨by have := (h.2 x hx).1; omega, (h.2 x hx).2⟩⟩
theorem do_fw {m : Nat} {l : List S54} (h : Fw m l) (c0 c1 c2 c3 : Int) : Fw (m + 1) (doS l c0 c1 c2 c3).1 := by
 have hk : Fw (m + 1) l := ⟨h.1, fun x hx => ⟨by have := (h.2 x hx).1; omega, (h.2 x hx).2⟩⟩
 unfold doS
 split
 ·split
  ·exact hk
  ·refine ⟨by rw [List.length_set]; exact h.1, fun x hx => ?_⟩
   rcases List.mem_or_eq_of_mem_set hx with hx | hx
   ·exact hk.2 x hx
   ·rw [hx]
    have hy : (rd_T54 l c1).f2.length ≤ 30 + m := by
     unfold rd_T54
     rw [List.getD_eq_getElem?_getD]
     by_cases hj : c1.toNat < l.length
     ·rw [List.getElem?_eq_getElem hj]
      exact (h.2 _ (List.getElem_mem hj)).1
     ·rw [List.getElem?_eq_none (by omega)]
      exact Nat.zero_le _
    exact md_few _ c0 c3 (30 + m) hy
 ·exact hk
theorem does_l0 (cs : List S24) (hc : ∀ c ∈ cs, 0 ≤ c.f2) (hcl : cs.length ≤ 9223372036854775807) : ∀ (d i : Nat) (l : List S54), i + d = 41 → i ≤ 40 → Fw i l → Ev (fun k => catenarylaw09_ConfDoes.l0 k cs l l (i : Int)) true
 | 0, i, l, hi, hi2, hf => by omega
 | d + 1, i, l, hi, hi2, hf => by
  have jf : Ev (fun k => catenarylaw09_ConfDoes.j1 k cs l l (i : Int) false) true := by
   refine Ev.step (f := fun k => catenarylaw09_awake.f k) (fun k => ?_) awake_ev
   simp only [catenarylaw09_ConfDoes.j1, Bool.false_eq_true, if_false]
   cases catenarylaw09_awake.f k <;> rfl
  by_cases h1 : i < cs.length
  ·by_cases h2 : i < 40
   ·have hfw := fw_few hf (by omega)
    have hci := hc cs[i] (List.getElem_mem h1)
    refine Ev.step (f := fun k => catenarylaw09_ConfDoes.j1 k cs l l (i : Int) true) (fun k => by simp only [catenarylaw09_ConfDoes.l0]; rw [if_pos (by omega), show decide ((i : Int) < 40) = true from decide_eq_true (by omega)]) ?_
    refine Ev.step (f := fun k => (conf_Can.f k l cs[i].f0 cs[i].f1 cs[i].f2 cs[i].f3).bind fun t304 => ((catenaryref09_Can.f k l cs[i].f0 cs[i].f1 cs[i].f2 cs[i].f3).bind fun t306 => (if t304 = t306 then ((conf_Do.f k l cs[i].f0 cs[i].f1 cs[i].f2 cs[i].f3).bind fun bt308 => ((catenaryref09_Do.f k l cs[i].f0 cs[i].f1 cs[i].f2 cs[i].f3).bind fun bt313 => (if (bt308.2 != bt313.2) = true then (some false) else ((catenaryref09_SameAll.f k bt308.1 bt313.1).bind fun t317 => (if t317 = true then ((catenaryref09_SameAll.f k l l).bind fun t318 => (if t318 = true then (catenarylaw09_ConfDoes.l0 k cs bt308.1 bt313.1 (wrap64 ((i : Int) + 1))) else (some false))) else (some false)))))) else (some false)))) (fun k => by simp only [catenarylaw09_ConfDoes.j1, if_true]; rw [if_pos (by omega), if_pos (by omega), rdC_at cs i h1]) (Ev.bind (can_ev l cs[i].f0 cs[i].f1 cs[i].f2 cs[i].f3 hfw) (Ev.bind (rcanall_ev l cs[i].f0 cs[i].f1 cs[i].f2 cs[i].f3 hfw hci) ?_))
    simp only [if_true]
    refine Ev.bind (do_ev l cs[i].f0 cs[i].f1 cs[i].f2 cs[i].f3 hfw) (Ev.bind (rdo_ev l cs[i].f0 cs[i].f1 cs[i].f2 cs[i].f3 hfw hci) ?_)
    have hf2 := do_fw hf cs[i].f0 cs[i].f1 cs[i].f2 cs[i].f3
    simp only [bne_self_eq_false, Bool.false_eq_true, if_false]
    refine Ev.bind (sameall_ev _ (fw_few hf2 (by omega))) ?_
    simp only [if_true]
    refine Ev.bind (sameall_ev l hfw) ?_
    simp only [if_true]
    rw [wsucc i (by omega)]
    exact does_l0 cs hc hcl d (i + 1) _ (by omega) (by omega) hf2
   ·refine Ev.step (f := fun k => catenarylaw09_ConfDoes.j1 k cs l l (i : Int) false) (fun k => by simp only [catenarylaw09_ConfDoes.l0]; rw [if_pos (by omega), show decide ((i : Int) < 40) = false from decide_eq_false (by omega)]) jf
  ·exact Ev.step (f := fun k => catenarylaw09_ConfDoes.j1 k cs l l (i : Int) false) (fun k => by simp only [catenarylaw09_ConfDoes.l0]; rw [if_neg (by omega)]) jf
theorem confdoes_ev (l : List S54) (cs : List S24) (hl : l.length ≤ 9223372036854775807) (hcl : cs.length ≤ 9223372036854775807) (he : ∀ y ∈ l, 0 ≤ y.f1 ∧ y.f1 < 18446744073709551616) (hc : ∀ c ∈ cs, 0 ≤ c.f2) : Ev (fun k => catenarylaw09_ConfDoes.f k l cs) true := by
 refine Ev.bind (few_ev l hl) ?_
 cases h1 : (l.all (fun x => decide (x.f2.length ≤ 30)) && decide (l.length ≤ 6)) with
 | false =>
  simp only [Bool.false_eq_true, if_false]
  exact Ev.congr (f := fun k => catenarylaw09_awake.f k) (fun k => by cases catenarylaw09_awake.f k <;> rfl) awake_ev
 | true =>
  simp only [if_true]
  rw [Bool.and_eq_true, List.all_eq_true, decide_eq_true_eq] at h1
  have hf : Fw 0 l := ⟨h1.2, fun y hy => ⟨by have := of_decide_eq_true (h1.1 y hy); omega, he y hy⟩⟩
  refine Ev.bind (copy_ev l (fw_few hf (by omega))) ?_
  exact does_l0 cs hc hcl 41 0 l (by omega) (by omega) hf
theorem confdoes_ev_rounds (l : List S54) (cs : List S24) (hl : l.length ≤ 9223372036854775807) (hcl : cs.length ≤ 9223372036854775807) (he : ∀ y ∈ l, 0 ≤ y.f1 ∧ y.f1 < 18446744073709551616) (hc : ∀ c ∈ cs, 0 ≤ c.f2) : ∃ k, catenarylaw09_ConfDoes.f k l cs = some true := (confdoes_ev l cs hl hcl he hc).rounds
end Go.Proofs.YtlpkandfmbnlnaaDoor.Q
end
