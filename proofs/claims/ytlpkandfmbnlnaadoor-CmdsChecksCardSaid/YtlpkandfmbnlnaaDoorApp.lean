/- Rows of numbers that are appended to and made; what is kept by a change of some blocks. No program in sight. -/
import Derived.Test.YtlpkandfmbnlnaaDoorMem
import Derived.Laws.AppendOwnNone
set_option linter.unusedVariables false
set_option linter.unusedSimpArgs false
namespace Go.Proofs.YtlpkandfmbnlnaaDoor.Mem
open Go Go.RowKit

/-! ### A change of some old blocks -/
/-- What is left alone: all old blocks but those in S. -/
structure Chg (w w' : World) (S : Nat → Prop) : Prop where
  os : w'.os = w.os
  tape : w'.tape = w.tape
  output : w'.output = w.output
  size : w.heap.size ≤ w'.heap.size
  block : ∀ k, k < w.heap.size → ¬ S k → w'.heap[k]? = w.heap[k]?

theorem Chg.refl (w : World) (S : Nat → Prop) : Chg w w S := ⟨rfl, rfl, rfl, Nat.le_refl _, fun _ _ _ => rfl⟩
theorem Chg.of_grown {w w' : World} {row : Option Nat} (h : w.grownBy w' row) : Chg w w' (fun k => row = some k) :=
  ⟨h.os, h.tape, h.output, h.size, fun k hk hn => h.block k hk (fun e => hn e.symm)⟩
theorem Chg.of_below {w w' : World} (h : Below w.heap.size w w') (S : Nat → Prop) : Chg w w' S :=
  ⟨h.os, h.tape, h.output, h.size, fun k hk _ => h.block k hk⟩
theorem Chg.of_grown_none {w w' : World} (h : w.grownBy w' none) (S : Nat → Prop) : Chg w w' S :=
  ⟨h.os, h.tape, h.output, h.size, fun k hk _ => h.block k hk (by simp)⟩
theorem Chg.trans {a b c : World} {S R : Nat → Prop} (h : Chg a b S) (k : Chg b c R) (hR : ∀ i, R i → S i ∨ a.heap.size ≤ i) : Chg a c S :=
  ⟨k.os.trans h.os, k.tape.trans h.tape, k.output.trans h.output, Nat.le_trans h.size k.size,
    fun i hi hn => (k.block i (Nat.lt_of_lt_of_le hi h.size) (fun e => by rcases hR i e with e | e; exact hn e; omega)).trans (h.block i hi hn)⟩
theorem Chg.mono {a b : World} {S R : Nat → Prop} (h : Chg a b S) (hR : ∀ i, S i → R i) : Chg a b R := ⟨h.os, h.tape, h.output, h.size, fun i hi hn => h.block i hi (fun e => hn (hR i e))⟩
theorem Chg.alloc {a b : World} {S : Nat → Prop} (h : Chg a b S) (o : Obj) : Chg a (b.alloc o) S := h.trans (Chg.of_grown_none (grown_alloc b o none) (fun _ => False)) (fun _ e => e.elim)
theorem Chg.drewN {a b : World} {S : Nat → Prop} (h : Chg a b S) (n : Nat) : Chg a (b.drewN n) S := h.trans (Chg.of_grown_none (grown_drewN b n none) (fun _ => False)) (fun _ e => e.elim)
theorem Chg.set {a b : World} {S : Nat → Prop} (h : Chg a b S) {B : Nat} (hB : S B ∨ a.heap.size ≤ B) (i : Nat) (v : Value) : Chg a (b.setCell ⟨B, i, none⟩ v) S :=
  h.trans (Chg.of_grown (grown_set b i v)) (fun j e => by rw [← Option.some.inj e]; exact hB)
theorem Chg.below {a b : World} {S : Nat → Prop} (h : Chg a b S) {B : Nat} (hB : B ≤ a.heap.size) (hS : ∀ i, S i → B ≤ i) : Below B a b :=
  ⟨h.os, h.tape, h.output, h.size, fun i hi => h.block i (by omega) (fun e => by have := hS i e; omega)⟩
theorem Chg.all_new {a b : World} {S : Nat → Prop} (h : Chg a b S) (hS : ∀ i, S i → a.heap.size ≤ i) : Below a.heap.size a b := h.below (Nat.le_refl _) hS
theorem Blk.touch {w w' : World} {b : Nat} {cs : Array Value} {t : TypeId} {S : Nat → Prop} (h : Blk w b cs t) (k : Chg w w' S) (hn : ¬ S b) : Blk w' b cs t := by
  have hlt := h.lt
  unfold Blk at h ⊢
  rw [k.block b hlt hn]
  exact h
theorem Rd.touch {w w' : World} {k : IntKind} {A : Option Addr} {l : List Int} {S : Nat → Prop} (h : Rd w k A l) (hg : Chg w w' S) (hne : ∀ b off, A = some ⟨b, off, none⟩ → ¬ S b) : Rd w' k A l := fun hl => by
  obtain ⟨b, off, e, hlt, hc⟩ := h hl
  refine ⟨b, off, e, Nat.lt_of_lt_of_le hlt hg.size, fun j hj => ?_⟩
  rw [← hc j hj]
  exact World.cell?_of_block (a := ⟨b, off + j, none⟩) (hg.block b hlt (hne b off e))
theorem ownsRow_touch {w w' : World} {base : Nat} {e : TypeId} {size n : Nat} {v : Value} {xs : List Value} {S : Nat → Prop} (h : w.ownsRow base e size v n xs) (hg : Chg w w' S) (hne : ∀ b, v.ownBlock = some b → ¬ S b) : w'.ownsRow base e size v n xs := by
  obtain ⟨h1, h2⟩ := h
  refine ⟨h1, ?_⟩
  rcases h2 with h2 | ⟨g, cap, cur, rfl, r2, hh, r3⟩
  · exact .inl h2
  · refine .inr ⟨g, cap, cur, rfl, r2, ?_, r3⟩
    rw [hg.block g (Array.getElem?_eq_some_iff.1 hh).1 (hne g rfl)]
    exact hh
theorem Own.touch {w w' : World} {base : Nat} {e : TypeId} {k : IntKind} {v : Value} {l : List Int} {S : Nat → Prop} (h : Own w base e k v l) (hg : Chg w w' S) (hne : ∀ b, v.ownBlock = some b → ¬ S b) : Own w' base e k v l := ownsRow_touch h hg hne

/-! ### Slices of numbers -/
theorem Rd.news {w : World} {k : IntKind} {a : Addr} {l : List Int} (h : Rd w k (some a) l) : ∀ j u, (l.map (Value.int k))[j]? = some u → w.cell? (a.add j) = some u := by
  intro j u hu
  have hj : j < l.length := by
    have := (List.getElem?_eq_some_iff.1 hu).1
    simpa using this
  obtain ⟨b, off, e, hlt, hc⟩ := h (by omega)
  have ea : a = ⟨b, off, none⟩ := Option.some.inj e
  subst ea
  have := hc j hj
  rw [Addr.add_lit]
  rw [this]
  simp [List.getD, hj] at hu ⊢
  exact hu
theorem ints_one (k : IntKind) (l : List Int) : ∀ u ∈ l.map (Value.int k), u.oneCell' = true := by
  intro u hu
  simp only [List.mem_map] at hu
  obtain ⟨x, _, rfl⟩ := hu
  rfl

/-- append: numbers behind numbers. -/
theorem wp_app {P : Program} {w : World} {ops : Array Oper} {rest : List Oper} {o : Oper} {a : Act} {Q : Exit → Act → World → Prop} (hgd : o.guard = none) (s x : Operand) (t : TypeId)
    (ho : o.op = .call { callee := .builtin .append, args := #[s, x], argTypes := #[t, t] })
    (e : TypeId) (k : IntKind) (bytes : Nat) (ht : P.underlying t = some (.slice e)) (hinfo : (P.info? e).map (fun i => (i.zero, i.size, i.bytes)) = some (some (.int k 0), 1, bytes)) (hby : bytes ≤ 16)
    (base : Nat) (v : Value) (l : List Int) (hs : a.eval s = v) (hown : Own w base e k v l)
    (A : Option Addr) (c : Nat) (r : List Int) (hx : a.eval x = .slice A r.length c) (hr : Rd w k A r) (hn : A = none → c = 0 ∧ r = [])
    (hlen : l.length + r.length ≤ 1000000000000) (hbase : base ≤ w.heap.size)
    (h : ∀ v' w', Own w' base e k v' (l ++ r) → w.grownBy w' v.ownBlock → (v'.ownBlock = v.ownBlock ∨ v'.ownBlock = some w.heap.size) → wpList P ops Q rest (a.put o.dst v') w') : wpList P ops Q (o :: rest) a w := by
  obtain ⟨i0, hi, hzz⟩ := Option.map_eq_some_iff.1 hinfo
  simp only [Prod.mk.injEq] at hzz
  obtain ⟨hz0, hz1, hz2⟩ := hzz
  cases A with
  | none =>
    obtain ⟨rfl, rfl⟩ := hn rfl
    refine wpList_append_own_none hgd s x t ho base e i0 1 ht hi v l.length _ hs hown hx ?_
    have := h v w (by simpa using hown) (grown_refl w _) (.inl rfl)
    exact this
  | some ad =>
    refine wpList_append_own_at w hgd s x t ho base e i0 (.int k 0) 1 bytes ht hi hz0 hz1 hz2 rfl (by decide) v l.length (l.map (Value.int k)) hs hown ad r.length c (r.map (Value.int k)) hx (by simp) hr.news (ints_one k r) (by simp only [maxLen]; omega)
      (Nat.le_trans (Nat.mul_le_mul hlen hby) (by decide)) hbase ?_
    intro v' w' ho' hg _ hat
    refine h v' w' ?_ hg hat
    unfold Own
    rw [List.map_append, List.length_append]
    exact ho'

/-- make: zeros. -/
theorem wp_mk {P : Program} {w : World} {ops : Array Oper} {rest : List Oper} {o : Oper} {a : Act} {Q : Exit → Act → World → Prop} (hg : o.guard = none) (l : Operand) (t : TypeId) (hop : o.op = Op.makeSlice t l l)
    (e : TypeId) (k : IntKind) (bytes : Nat) (ht : P.underlying t = some (.slice e)) (hinfo : (P.info? e).map (fun i => (i.zero, i.size, i.bytes)) = some (some (.int k 0), 1, bytes)) (hby : bytes ≤ 16)
    (base : Nat) (kl : IntKind) (n : Nat) (hl : a.eval l = .int kl (n : Int)) (hlen : n ≤ 1000000000000) (hbase : base ≤ w.heap.size)
    (h : ∀ w', Own w' base e k (.slice (some ⟨w.heap.size, 0, none⟩) n n) (List.replicate n 0) → w.grownBy w' none → wpList P ops Q rest (a.put o.dst (.slice (some ⟨w.heap.size, 0, none⟩) n n)) w') :
    wpList P ops Q (o :: rest) a w := by
  obtain ⟨i0, hi, hzz⟩ := Option.map_eq_some_iff.1 hinfo
  simp only [Prod.mk.injEq] at hzz
  obtain ⟨hz0, hz1, hz2⟩ := hzz
  refine wpList_make_full w hg l l t hop base e i0 (.int k 0) 1 ht hi hz0 hz1 kl kl (n : Int) (n : Int) n hl hl rfl rfl (Nat.le_trans (Nat.mul_le_mul (hz2 ▸ hby) hlen) (by decide)) (by simp only [maxLen]; omega) hbase ?_
  intro w' ho hgr
  refine h w' ?_ hgr
  unfold Own
  have e1 : (madeCells (Value.int k 0).cells (n * 1)).toList = (List.replicate n (0 : Int)).map (Value.int k) := by
    rw [List.map_replicate]
    apply List.ext_getElem?
    intro j
    by_cases hj : j < n <;> simp [madeCells, Value.cells, List.getElem?_replicate, hj, Nat.mod_one]
  rw [e1] at ho
  simpa using ho

/-- A literal's row. -/
theorem own_lit (w : World) (base : Nat) (e : TypeId) (k : IntKind) (l : List Int) (hb : base ≤ w.heap.size) (hl : l.length ≤ 1000000) :
    Own (w.alloc (.cells (l.map (Value.int k)).toArray e)) base e k (.slice (some ⟨w.heap.size, 0, none⟩) l.length l.length) l := by
  have := World.ownsRow_lit (base := base) (e := e) (size := 1) w (l.map (Value.int k)).toArray l.length hb (by simp only [maxLen]; omega) (by simp)
  simpa [Own] using this
theorem Own.drewN {w : World} {base : Nat} {e : TypeId} {k : IntKind} {v : Value} {l : List Int} (h : Own w base e k v l) (n : Nat) : Own (w.drewN n) base e k v l := h
theorem Rd.drewN {w : World} {k : IntKind} {A : Option Addr} {l : List Int} (h : Rd w k A l) (n : Nat) : Rd (w.drewN n) k A l := h.grown (grown_drewN w n none) (by simp)
theorem Rd.alloc {w : World} {k : IntKind} {A : Option Addr} {l : List Int} (h : Rd w k A l) (o : Obj) : Rd (w.alloc o) k A l := h.grown (grown_alloc w o none) (by simp)
theorem Own.grown {w w1 : World} {base : Nat} {e : TypeId} {k : IntKind} {v : Value} {l : List Int} (h : Own w base e k v l) {row : Option Nat} (hg : w.grownBy w1 row) (hne : v.ownBlock = none ∨ v.ownBlock ≠ row) : Own w1 base e k v l := by
  refine h.touch (Chg.of_grown hg) (fun b hb e => ?_)
  rcases hne with hne | hne
  · rw [hne] at hb
    cases hb
  · exact hne (hb.trans e.symm)
theorem Own.lt {w : World} {base : Nat} {e : TypeId} {k : IntKind} {v : Value} {l : List Int} (h : Own w base e k v l) (b : Nat) (hb : v.ownBlock = some b) : base ≤ b ∧ b < w.heap.size := own_row_lt h b hb
/-- A slice as it is handed on: how long, how much room, what it reads. -/
structure Sl (w : World) (k : IntKind) (v : Value) (l : List Int) : Prop where
  look : ∃ A c, v = .slice A l.length c ∧ l.length ≤ c ∧ Rd w k A l ∧ (A = none → c = 0 ∧ l = [])
theorem Sl.mk' {w : World} {k : IntKind} {A : Option Addr} {c : Nat} {l : List Int} (h : Rd w k A l) (hc : l.length ≤ c) (hn : A = none → c = 0 ∧ l = []) : Sl w k (.slice A l.length c) l := ⟨A, c, rfl, hc, h, hn⟩
theorem Sl.nil (w : World) (k : IntKind) : Sl w k (.slice none 0 0) [] := ⟨none, 0, rfl, Nat.le_refl _, Rd.nil w k none, fun _ => ⟨rfl, rfl⟩⟩
theorem Own.sl {w : World} {base : Nat} {e : TypeId} {k : IntKind} {v : Value} {l : List Int} (h : Own w base e k v l) : Sl w k v l := by
  obtain ⟨A, cap, h1, h2, h3, h4⟩ := h.look
  refine ⟨A, cap, h1, h2, h3, fun e => ⟨?_, h4 e⟩⟩
  rcases h.2 with ⟨hv, _⟩ | ⟨g, cap', cur, hv, _⟩
  · rw [h1] at hv
    simp only [Value.slice.injEq] at hv
    exact hv.2.2
  · rw [h1] at hv
    simp only [Value.slice.injEq] at hv
    rw [e] at hv
    cases hv.1
theorem Sl.below {w w' : World} {k : IntKind} {v : Value} {l : List Int} (h : Sl w k v l) (hb : Below w.heap.size w w') : Sl w' k v l := by
  obtain ⟨A, c, h1, h2, h3, h4⟩ := h.look
  exact ⟨A, c, h1, h2, h3.below hb, h4⟩
theorem Sl.touch {w w' : World} {k : IntKind} {v : Value} {l : List Int} {S : Nat → Prop} (h : Sl w k v l) (hg : Chg w w' S) (hne : ∀ b, v.ownBlock = some b → ¬ S b) : Sl w' k v l := by
  obtain ⟨A, c, rfl, h2, h3, h4⟩ := h.look
  exact ⟨A, c, rfl, h2, h3.touch hg (fun b off e => hne b (by rw [e]; rfl)), h4⟩

theorem Own.len {w : World} {base : Nat} {e : TypeId} {k : IntKind} {A : Option Addr} {n c : Nat} {l : List Int} (h : Own w base e k (.slice A n c) l) : n = l.length := by
  obtain ⟨A', c', hv, _⟩ := h.look
  simp only [Value.slice.injEq] at hv
  exact hv.2.1
theorem Own.cell {w : World} {base : Nat} {e : TypeId} {k : IntKind} {g n c : Nat} {l : List Int} (h : Own w base e k (.slice (some ⟨g, 0, none⟩) n c) l) {j : Nat} (hj : j < l.length) : w.cell? ⟨g, j, none⟩ = some (.int k (l.getD j 0)) := by
  have e1 := h.len
  subst e1
  have := World.ownsRow.cellAt h j (by simpa using hj)
  simpa [List.getD, hj] using this
theorem Own.free {w : World} {base : Nat} {e : TypeId} {k : IntKind} {g n c : Nat} {l : List Int} (h : Own w base e k (.slice (some ⟨g, 0, none⟩) n c) l) (j : Nat) : w.frozen? ⟨g, j, none⟩ = false := by
  have e1 := h.len
  subst e1
  exact World.ownsRow.frozenAt h j
theorem Own.store {w : World} {base : Nat} {e : TypeId} {k : IntKind} {g n c : Nat} {l : List Int} (h : Own w base e k (.slice (some ⟨g, 0, none⟩) n c) l) (j : Nat) (x : Int) : Own (w.setCell ⟨g, j, none⟩ (.int k x)) base e k (.slice (some ⟨g, 0, none⟩) n c) (l.set j x) := by
  have e1 := h.len
  subst e1
  have := (World.ownsRow.stored h j (.int k x)).1
  unfold Own
  simpa [List.map_set] using this

theorem Sl.rd {w : World} {k : IntKind} {A : Option Addr} {n c : Nat} {l : List Int} (h : Sl w k (.slice A n c) l) : Rd w k A l := by
  obtain ⟨A', c', hv, _, hr, _⟩ := h.look
  simp only [Value.slice.injEq] at hv
  rw [hv.1]
  exact hr

end Go.Proofs.YtlpkandfmbnlnaaDoor.Mem
