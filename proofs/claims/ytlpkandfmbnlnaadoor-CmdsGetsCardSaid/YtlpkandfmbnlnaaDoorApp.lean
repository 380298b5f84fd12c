/- Memory: blocks known whole, slices that are read, rows that are owned; what is kept over new blocks, draws and stores elsewhere. No program in sight. Plain arithmetic: a number as bytes, the greatest first, and back. No program in sight. Rows of numbers that are appended to and made; what is kept by a change of some blocks. No program in sight. -/
import Derived.Below
import Derived.Laws.AppendOwn
import Derived.Laws.OwnMore
import Derived.OneCell
import Derived.OwnWalk
import Derived.Maps.AppendAt
import Derived.Maps.Range
import Derived.Deep.Draws
import Derived.Deep.Slices
import Derived.Deep.Fields
import Derived.Lib.Hide
import Derived.Laws.BitsLemmas
import Derived.Laws.Bits64
import Derived.Laws.AppendOwnNone
set_option linter.unusedVariables false
set_option linter.unusedSimpArgs false
namespace Go.Proofs.YtlpkandfmbnlnaaDoor.Mem
open Go Go.RowKit

/-! ### A block known whole -/
/-- Block b holds just the cells cs, none of them frozen. -/
def Blk (w : World) (b : Nat) (cs : Array Value) (t : TypeId) : Prop := w.heap[b]? = some (.cells cs t (0, 0))

section
variable {w w' : World} {b : Nat} {cs : Array Value} {t : TypeId}
theorem Blk.lt (h : Blk w b cs t) : b < w.heap.size := lt_of_block h
theorem Blk.cell (h : Blk w b cs t) {i : Nat} {v : Value} (hi : cs[i]? = some v) : w.cell? ⟨b, i, none⟩ = some v := by
  unfold Blk at h
  simp [World.cell?, h, hi]
theorem Blk.free (h : Blk w b cs t) (i : Nat) : w.frozen? ⟨b, i, none⟩ = false := by
  unfold Blk at h
  simp [World.frozen?, h]
theorem Blk.set (h : Blk w b cs t) (i : Nat) (v : Value) : Blk (w.setCell ⟨b, i, none⟩ v) b (cs.setIfInBounds i v) t := by
  have hlt := h.lt
  unfold Blk at h ⊢
  have h' : w.heap[b] = .cells cs t (0, 0) := by simpa [Array.getElem?_eq_getElem hlt] using h
  show (w.heap.modify b _)[b]? = _
  rw [Array.getElem?_eq_getElem (by simpa using hlt), Array.getElem_modify_self, h']
  rfl
theorem Blk.other (h : Blk w b cs t) {a : Addr} (hne : b ≠ a.block) (v : Value) : Blk (w.setCell a v) b cs t := by
  unfold Blk at h ⊢
  rw [Below.heap_setCell _ _ _ _ hne]
  exact h
theorem Blk.alloc (h : Blk w b cs t) (o : Obj) : Blk (w.alloc o) b cs t := by
  have hlt := h.lt
  unfold Blk at h ⊢
  rw [Below.heap_alloc _ _ _ hlt]
  exact h
theorem Blk.drew (h : Blk w b cs t) : Blk w.drew b cs t := h
theorem Blk.drewN (h : Blk w b cs t) (n : Nat) : Blk (w.drewN n) b cs t := by
  unfold Blk at h ⊢
  simpa using h
theorem Blk.below {B : Nat} (h : Blk w b cs t) (hb : Below B w w') (hlt : b < B) : Blk w' b cs t := by
  unfold Blk at h ⊢
  rw [hb.block b hlt]
  exact h
theorem Blk.grown (h : Blk w b cs t) {row : Option Nat} (hg : w.grownBy w' row) (hne : some b ≠ row) : Blk w' b cs t := by
  have hlt := h.lt
  unfold Blk at h ⊢
  rw [hg.block b hlt hne]
  exact h
theorem Blk.new (w : World) (cs : Array Value) (t : TypeId) : Blk (w.alloc (.cells cs t)) w.heap.size cs t := by
  show (w.heap.push (.cells cs t))[w.heap.size]? = _
  simp
end

/-! ### What is kept: a world in which old blocks but one are as they were -/
theorem grown_set {B : Nat} (w : World) (i : Nat) (v : Value) : w.grownBy (w.setCell ⟨B, i, none⟩ v) (some B) :=
  ⟨rfl, rfl, rfl, by simp [World.setCell], fun k hk hne => Below.heap_setCell _ _ _ _ (fun e => hne (by rw [e]))⟩
theorem grown_alloc (w : World) (o : Obj) (row : Option Nat) : w.grownBy (w.alloc o) row := World.grownBy_alloc w o row
theorem grown_drew (w : World) (row : Option Nat) : w.grownBy w.drew row := ⟨rfl, rfl, rfl, Nat.le_refl _, fun _ _ _ => rfl⟩
theorem heap_drewN (w : World) (n : Nat) : (w.drewN n).heap = w.heap := rfl
theorem grown_drewN (w : World) (n : Nat) (row : Option Nat) : w.grownBy (w.drewN n) row := ⟨rfl, rfl, rfl, Nat.le_of_eq (congrArg Array.size (heap_drewN w n)).symm, fun i _ _ => by rw [heap_drewN w n]⟩
theorem grown_refl (w : World) (row : Option Nat) : w.grownBy w row := World.grownBy.refl w row
theorem grown_trans {a b c : World} {row : Option Nat} (h : a.grownBy b row) (k : b.grownBy c row) : a.grownBy c row := World.grownBy.trans h k
/-- A store into a block that is new since a. -/
theorem grown_new {a b : World} {row : Option Nat} (h : a.grownBy b row) {p : Addr} (hp : a.heap.size ≤ p.block) (v : Value) : a.grownBy (b.setCell p v) row :=
  ⟨h.os, h.tape, h.output, by simpa [World.setCell] using h.size, fun k hk hne => by rw [Below.heap_setCell _ _ _ _ (by omega)]; exact h.block k hk hne⟩
theorem grown_none {a b : World} (h : a.grownBy b none) (row : Option Nat) : a.grownBy b row := ⟨h.os, h.tape, h.output, h.size, fun i hi _ => h.block i hi (by simp)⟩
/-- What turned a block that is new since a. -/
theorem grown_fresh {a b c : World} {row : Option Nat} {L : Nat} (h : a.grownBy b row) (k : b.grownBy c (some L)) (hL : a.heap.size ≤ L) : a.grownBy c row :=
  ⟨k.os.trans h.os, k.tape.trans h.tape, k.output.trans h.output, Nat.le_trans h.size k.size, fun i hi hne => (k.block i (Nat.lt_of_lt_of_le hi h.size) (fun e => by have := Option.some.inj e; omega)).trans (h.block i hi hne)⟩
theorem below_of_grown {a b : World} {B : Nat} {row : Option Nat} (h : a.grownBy b row) (hB : B ≤ a.heap.size) (hr : ∀ k, row = some k → B ≤ k) : Below B a b := (Below.refl B a).grown h hB hr
theorem grown_of_below {w w1 : World} (h : Below w.heap.size w w1) (row : Option Nat) : w.grownBy w1 row := ⟨h.os, h.tape, h.output, h.size, fun i hi _ => h.block i hi⟩
theorem below_drewN {B : Nat} {w W : World} (h : Below B w W) (n : Nat) : Below B w (W.drewN n) := ⟨h.os, h.tape, h.output, by rw [heap_drewN W n]; exact h.size, fun i hi => by rw [heap_drewN W n]; exact h.block i hi⟩
theorem below_alloc {w W : World} (h : Below w.heap.size w W) (o : Obj) : Below w.heap.size w (W.alloc o) := h.alloc h.size o
theorem below_then {B : Nat} {w w1 w2 : World} (h : Below B w w1) (hB : B ≤ w1.heap.size) (k : Below w1.heap.size w1 w2) : Below B w w2 := h.trans (k.mono hB)

/-! ### A slice that is read -/
/-- The slice at A reads as l. -/
def Rd (w : World) (k : IntKind) (A : Option Addr) (l : List Int) : Prop :=
  0 < l.length → ∃ b off, A = some ⟨b, off, none⟩ ∧ b < w.heap.size ∧ ∀ j, j < l.length → w.cell? ⟨b, off + j, none⟩ = some (.int k (l.getD j 0))

theorem Rd.nil (w : World) (k : IntKind) (A : Option Addr) : Rd w k A [] := fun h => absurd h (by simp)
theorem Rd.below {w w' : World} {k : IntKind} {A : Option Addr} {l : List Int} (h : Rd w k A l) (hb : Below w.heap.size w w') : Rd w' k A l := fun hl => by
  obtain ⟨b, off, e, hlt, hc⟩ := h hl
  exact ⟨b, off, e, Nat.lt_of_lt_of_le hlt hb.size, fun j hj => (hb.cell (p := ⟨b, off + j, none⟩) hlt).trans (hc j hj)⟩
theorem Rd.grown {w w' : World} {k : IntKind} {A : Option Addr} {l : List Int} (h : Rd w k A l) {row : Option Nat} (hg : w.grownBy w' row) (hne : ∀ b off, A = some ⟨b, off, none⟩ → some b ≠ row) : Rd w' k A l := fun hl => by
  obtain ⟨b, off, e, hlt, hc⟩ := h hl
  exact ⟨b, off, e, Nat.lt_of_lt_of_le hlt hg.size, fun j hj => hg.cell (hc j hj) (hne b off e)⟩
theorem Rd.drop {w : World} {k : IntKind} {b off : Nat} {l : List Int} (h : Rd w k (some ⟨b, off, none⟩) l) (n : Nat) : Rd w k (some ⟨b, off + n, none⟩) (l.drop n) := fun hl => by
  obtain ⟨b', off', e, hlt, hc⟩ := h (by simp at hl; omega)
  simp only [Option.some.injEq, Addr.mk.injEq, and_true] at e
  obtain ⟨rfl, rfl⟩ := e
  refine ⟨b, off + n, rfl, hlt, fun j hj => ?_⟩
  have := hc (n + j) (by simp at hj; omega)
  rw [← Nat.add_assoc] at this
  rw [this]
  simp [List.getD]
theorem Rd.take {w : World} {k : IntKind} {A : Option Addr} {l : List Int} (h : Rd w k A l) (n : Nat) : Rd w k A (l.take n) := fun hl => by
  obtain ⟨b, off, e, hlt, hc⟩ := h (by simp at hl; omega)
  refine ⟨b, off, e, hlt, fun j hj => ?_⟩
  rw [hc j (by simp at hj; omega)]
  have : j < n := by simp at hj; omega
  simp [List.getD, this]

/-! ### A row that the call itself has made -/
/-- v is a slice that owns its cells: it reads as l. -/
def Own (w : World) (base : Nat) (e : TypeId) (k : IntKind) (v : Value) (l : List Int) : Prop := w.ownsRow base e 1 v l.length (l.map (Value.int k))

theorem Own.nil (w : World) (base : Nat) (e : TypeId) (k : IntKind) : Own w base e k (.slice none 0 0) [] := ⟨by simp, .inl ⟨rfl, rfl⟩⟩
theorem own_row_lt {w : World} {base : Nat} {e : TypeId} {size n : Nat} {v : Value} {xs : List Value} (h : w.ownsRow base e size v n xs) (k : Nat) (hk : v.ownBlock = some k) : base ≤ k ∧ k < w.heap.size := by
  rcases h.2 with ⟨rfl, _⟩ | ⟨g, cap, cur, rfl, hb, hh, _⟩
  · simp [Value.ownBlock] at hk
  · have : g = k := by simpa [Value.ownBlock] using hk
    subst this
    exact ⟨hb, (Array.getElem?_eq_some_iff.1 hh).1⟩
theorem own_row_ne {w : World} {b b' : Nat} {e e' : TypeId} {s s' n n' : Nat} {v v' : Value} {xs xs' : List Value} (h : w.ownsRow b e s v n xs) (h' : w.ownsRow b' e' s' v' n' xs') (hne : e ≠ e') : v.ownBlock = none ∨ v.ownBlock ≠ v'.ownBlock := by
  rcases h.2 with ⟨rfl, _⟩ | ⟨g, cap, cur, rfl, _, hh, _⟩
  · exact .inl rfl
  · refine .inr fun hk => ?_
    rcases h'.2 with ⟨rfl, _⟩ | ⟨g', cap', cur', rfl, _, hh', _⟩
    · simp [Value.ownBlock] at hk
    · have : g = g' := by simpa [Value.ownBlock] using hk
      subst this
      rw [hh] at hh'
      simp only [Option.some.injEq, Obj.cells.injEq] at hh'
      exact hne hh'.2.1
theorem own_row_blk_ne {w : World} {base : Nat} {e t : TypeId} {s n b : Nat} {v : Value} {xs : List Value} {cs : Array Value} (h : w.ownsRow base e s v n xs) (hb : Blk w b cs t) (hne : e ≠ t) : v.ownBlock ≠ some b := by
  intro hk
  rcases h.2 with ⟨rfl, _⟩ | ⟨g', cap', cur', rfl, _, hh', _⟩
  · simp [Value.ownBlock] at hk
  · have : g' = b := by simpa [Value.ownBlock] using hk
    subst this
    unfold Blk at hb
    rw [hh'] at hb
    simp only [Option.some.injEq, Obj.cells.injEq] at hb
    exact hne hb.2.1
theorem own_row_below {w w1 : World} {base : Nat} {e : TypeId} {size n : Nat} {v : Value} {xs : List Value} (h : w.ownsRow base e size v n xs) (hb : Below w.heap.size w w1) : w1.ownsRow base e size v n xs :=
  h.kept (grown_of_below hb none) (by cases v.ownBlock <;> simp)

theorem Own.below {w w1 : World} {base : Nat} {e : TypeId} {k : IntKind} {v : Value} {l : List Int} (h : Own w base e k v l) (hb : Below w.heap.size w w1) : Own w1 base e k v l := own_row_below h hb
theorem Own.alloc {w : World} {base : Nat} {e : TypeId} {k : IntKind} {v : Value} {l : List Int} (h : Own w base e k v l) (o : Obj) : Own (w.alloc o) base e k v l := World.ownsRow.alloc h o
theorem Own.base {w : World} {base base' : Nat} {e : TypeId} {k : IntKind} {v : Value} {l : List Int} (h : Own w base e k v l) (hb : base' ≤ base) : Own w base' e k v l := by
  obtain ⟨h1, h2⟩ := h
  refine ⟨h1, ?_⟩
  rcases h2 with h2 | ⟨g, cap, cur, r1, r2, r3⟩
  · exact .inl h2
  · exact .inr ⟨g, cap, cur, r1, Nat.le_trans hb r2, r3⟩
/-- What an owned slice looks like, and that it reads as it should. -/
theorem Own.look {w : World} {base : Nat} {e : TypeId} {k : IntKind} {v : Value} {l : List Int} (h : Own w base e k v l) : ∃ A cap, v = .slice A l.length cap ∧ l.length ≤ cap ∧ Rd w k A l ∧ (A = none → l = []) := by
  have h0 := h
  rcases h.2 with ⟨rfl, hx⟩ | ⟨g, cap, cur, rfl, hb, hh, hcap, hr⟩
  · have : l = [] := by simpa using hx
    subst this
    exact ⟨none, 0, rfl, Nat.le_refl _, Rd.nil _ _ _, fun _ => rfl⟩
  · have hlt : g < w.heap.size := (Array.getElem?_eq_some_iff.1 hh).1
    refine ⟨some ⟨g, 0, none⟩, cap, rfl, hcap, fun hl => ⟨g, 0, rfl, hlt, fun j hj => ?_⟩, fun e => by cases e⟩
    have := World.ownsRow.cellAt h0 (j := j) (by simpa using hj)
    simpa [List.getD, hj] using this

end Go.Proofs.YtlpkandfmbnlnaaDoor.Mem

namespace Go.Proofs.YtlpkandfmbnlnaaDoor.Num
open Go

/-- The k lowest bytes of n, the greatest first. -/
def be : Nat → Nat → List Int
  | 0, _ => []
  | k + 1, n => ((n / 256 ^ k % 256 : Nat) : Int) :: be k n
/-- The number that bytes are, in 64 bits. -/
def num (l : List Int) : Int := l.foldl (fun n c => (n * 256 + c) % 18446744073709551616) 0
/-- .. of any width. -/
def nv (l : List Int) : Nat := l.foldl (fun n c => n * 256 + c.toNat) 0
def Bytes (l : List Int) : Prop := ∀ x, x ∈ l → 0 ≤ x ∧ x < 256

theorem be_len (k n : Nat) : (be k n).length = k := by
  induction k with
  | zero => rfl
  | succ k ih => simp [be, ih]
theorem be_bytes (k n : Nat) : Bytes (be k n) := by
  induction k with
  | zero => intro x hx; simp [be] at hx
  | succ k ih =>
    intro x hx
    simp only [be, List.mem_cons] at hx
    rcases hx with rfl | hx
    · constructor <;> omega
    · exact ih x hx
theorem be_cons (k n : Nat) : be (k + 1) n = ((n / 256 ^ k % 256 : Nat) : Int) :: be k n := rfl
theorem be_mod (k n : Nat) : be k (n % 256 ^ k) = be k n := by
  have : ∀ j, j ≤ k → be j (n % 256 ^ k) = be j n := by
    intro j
    induction j with
    | zero => intro _; rfl
    | succ j ih =>
      intro hj
      rw [be_cons, be_cons, ih (by omega)]
      congr 2
      have e : (256 : Nat) ^ k = 256 ^ j * 256 ^ (k - j) := by rw [← Nat.pow_add]; congr 1; omega
      have e2 : (256 : Nat) ^ (k - j) = 256 * 256 ^ (k - j - 1) := by
        rw [← Nat.pow_succ']; congr 1; omega
      rw [e, Nat.mod_mul_right_div_self, e2, Nat.mod_mul_right_mod]
  exact this k (Nat.le_refl _)
/-- One byte more behind. -/
theorem be_snoc (k n : Nat) : be (k + 1) n = be k (n / 256) ++ [((n % 256 : Nat) : Int)] := by
  induction k generalizing n with
  | zero => simp [be]
  | succ k ih =>
    rw [be_cons, ih, be_cons, List.cons_append]
    congr 3
    rw [Nat.div_div_eq_div_mul, Nat.pow_succ']

theorem nv_snoc (l : List Int) (x : Int) : nv (l ++ [x]) = nv l * 256 + x.toNat := by simp [nv]
theorem num_snoc (l : List Int) (x : Int) : num (l ++ [x]) = (num l * 256 + x) % 18446744073709551616 := by simp [num]
theorem snoc_ind {P : List Int → Prop} (h0 : P []) (h1 : ∀ l x, P l → P (l ++ [x])) (l : List Int) : P l := by
  have : ∀ r : List Int, P r.reverse := by
    intro r
    induction r with
    | nil => simpa using h0
    | cons a r ih => simpa using h1 _ a ih
  simpa using this l.reverse
theorem Bytes.left {l r : List Int} (h : Bytes (l ++ r)) : Bytes l := fun x hx => h x (by simp [hx])
theorem Bytes.right {l r : List Int} (h : Bytes (l ++ r)) : Bytes r := fun x hx => h x (by simp [hx])
theorem Bytes.append {l r : List Int} (h : Bytes l) (k : Bytes r) : Bytes (l ++ r) := fun x hx => by
  rcases List.mem_append.1 hx with e | e
  · exact h x e
  · exact k x e
theorem Bytes.take {l : List Int} (h : Bytes l) (n : Nat) : Bytes (l.take n) := fun x hx => h x (List.mem_of_mem_take hx)
theorem Bytes.drop {l : List Int} (h : Bytes l) (n : Nat) : Bytes (l.drop n) := fun x hx => h x (List.mem_of_mem_drop hx)
theorem Bytes.getD {l : List Int} (h : Bytes l) (n : Nat) : 0 ≤ l.getD n 0 ∧ l.getD n 0 < 256 := by
  by_cases hn : n < l.length
  · have : l.getD n 0 ∈ l := by simp [List.getD, hn]
    exact h _ this
  · simp [List.getD, Nat.le_of_not_lt hn]
theorem nv_lt (l : List Int) (h : Bytes l) : nv l < 256 ^ l.length := by
  induction l using snoc_ind with
  | h0 => simp [nv]
  | h1 l x ih =>
    have h1 := ih h.left
    have h2 := h x (by simp)
    rw [nv_snoc, List.length_append, List.length_singleton, Nat.pow_succ]
    omega
theorem num_nv (l : List Int) (h : Bytes l) : num l = ((nv l % 18446744073709551616 : Nat) : Int) := by
  induction l using snoc_ind with
  | h0 => simp [nv, num]
  | h1 l x ih =>
    have h1 := ih h.left
    have h2 := h x (by simp)
    rw [nv_snoc, num_snoc, h1]
    omega
theorem num_range (l : List Int) (h : Bytes l) : 0 ≤ num l ∧ num l < 18446744073709551616 := by
  rw [num_nv l h]
  omega
theorem num_eq (l : List Int) (h : Bytes l) (hl : l.length ≤ 8) : num l = ((nv l : Nat) : Int) := by
  rw [num_nv l h]
  have h1 := nv_lt l h
  have h2 : 256 ^ l.length ≤ 256 ^ 8 := Nat.pow_le_pow_right (by decide) hl
  have h3 : (256 : Nat) ^ 8 = 18446744073709551616 := by decide
  rw [Nat.mod_eq_of_lt (by omega)]
theorem nv_be (k n : Nat) : nv (be k n) = n % 256 ^ k := by
  induction k generalizing n with
  | zero => simp [nv, be, Nat.mod_one]
  | succ k ih =>
    rw [be_snoc, nv_snoc, ih, Nat.pow_succ', Nat.mod_mul]
    have : (((n % 256 : Nat) : Int)).toNat = n % 256 := by omega
    rw [this]
    omega
theorem be_nv (l : List Int) (h : Bytes l) : be l.length (nv l) = l := by
  induction l using snoc_ind with
  | h0 => rfl
  | h1 l x ih =>
    have h2 := h x (by simp)
    rw [List.length_append, List.length_singleton, be_snoc, nv_snoc]
    have e1 : (nv l * 256 + x.toNat) / 256 = nv l := by omega
    have e2 : (((nv l * 256 + x.toNat) % 256 : Nat) : Int) = x := by omega
    rw [e1, e2, ih h.left]
theorem num_be (k n : Nat) (hk : k ≤ 8) : num (be k n) = ((n % 256 ^ k : Nat) : Int) := by
  rw [num_eq _ (be_bytes k n) (by rw [be_len]; exact hk), nv_be]
theorem be_num (l : List Int) (h : Bytes l) (hl : l.length ≤ 8) : be l.length (num l).toNat = l := by
  rw [num_eq l h hl]
  exact be_nv l h
theorem pow_width (k : Nat) : (256 : Nat) ^ k = 2 ^ (8 * k) := by
  rw [Nat.pow_mul]

theorem byte_at (n j : Nat) : ((n : Int) / 2 ^ (8 * j) % 256) = ((n / 256 ^ j % 256 : Nat) : Int) := by
  rw [pow_width]
  simp
/-- One more byte ahead of zeros' end. -/
theorem set_be (k j n : Nat) (hj : j < k) : (List.replicate (k - j) 0 ++ be j n).set (k - 1 - j) ((n : Int) / 2 ^ (8 * j) % 256) = List.replicate (k - (j + 1)) 0 ++ be (j + 1) n := by
  rw [byte_at, be_cons]
  have e1 : k - j = (k - (j + 1)) + 1 := by omega
  have e2 : k - 1 - j = k - (j + 1) := by omega
  rw [e1, e2, List.replicate_succ', List.append_assoc, List.set_append_right _ _ (by simp)]
  simp

/-! ### Go's words -/
theorem w64 (n : Int) : IntKind.u64.wrap n = n % 18446744073709551616 := IntKind.wrap_u64 n
theorem i64_in (n : Int) (h0 : -9223372036854775808 ≤ n) (h1 : n < 9223372036854775808) : IntKind.i64.wrap n = n := by rw [IntKind.wrap_i64]; omega
theorem wraps_u64 (n : Int) (h₀ : 0 ≤ n) (h₁ : n < 2 ^ 64) : IntKind.u64.wrap n = n := by rw [IntKind.wrap_u64]; omega
/-- n<<8 | c -/
theorem or_shl (n c : Int) (h0 : 0 ≤ c) (h1 : c < 256) : bits .or .u64 (IntKind.u64.wrap (n * 256)) c = (n * 256 + c) % 18446744073709551616 := by
  rw [bits_join .u64 64 (by decide) wraps_u64 8 (IntKind.u64.wrap (n * 256)) c (by rw [w64]; omega) (by rw [w64]; omega) (by rw [w64]; omega) h0 (by omega) (by omega), w64]
  omega

end Go.Proofs.YtlpkandfmbnlnaaDoor.Num

namespace Go.Proofs.YtlpkandfmbnlnaaDoor.Mem
open Go Go.RowKit

/-! ### A change of some old blocks -/
/-- What is left alone: all old blocks but those in S. -/
structure Chg (w w' : World) (S : Nat → Prop) : Prop where
  os : w'.os = w.os
  tape : w'.tape = w.tape
  output : w'.output = w.output
  size : w.heap.size ≤ w'.heap.size
  block : ∀ k, k < w.heap.size → ¬ S k → w'.heap[k]? = w.heap[k]?

theorem Chg.refl (w : World) (S : Nat → Prop) : Chg w w S := ⟨rfl, rfl, rfl, Nat.le_refl _, fun _ _ _ => rfl⟩
theorem Chg.of_grown {w w' : World} {row : Option Nat} (h : w.grownBy w' row) : Chg w w' (fun k => row = some k) :=
  ⟨h.os, h.tape, h.output, h.size, fun k hk hn => h.block k hk (fun e => hn e.symm)⟩
theorem Chg.of_below {w w' : World} (h : Below w.heap.size w w') (S : Nat → Prop) : Chg w w' S :=
  ⟨h.os, h.tape, h.output, h.size, fun k hk _ => h.block k hk⟩
theorem Chg.of_grown_none {w w' : World} (h : w.grownBy w' none) (S : Nat → Prop) : Chg w w' S :=
  ⟨h.os, h.tape, h.output, h.size, fun k hk _ => h.block k hk (by simp)⟩
theorem Chg.trans {a b c : World} {S R : Nat → Prop} (h : Chg a b S) (k : Chg b c R) (hR : ∀ i, R i → S i ∨ a.heap.size ≤ i) : Chg a c S :=
  ⟨k.os.trans h.os, k.tape.trans h.tape, k.output.trans h.output, Nat.le_trans h.size k.size,
    fun i hi hn => (k.block i (Nat.lt_of_lt_of_le hi h.size) (fun e => by rcases hR i e with e | e; exact hn e; omega)).trans (h.block i hi hn)⟩
theorem Chg.mono {a b : World} {S R : Nat → Prop} (h : Chg a b S) (hR : ∀ i, S i → R i) : Chg a b R := ⟨h.os, h.tape, h.output, h.size, fun i hi hn => h.block i hi (fun e => hn (hR i e))⟩
theorem Chg.alloc {a b : World} {S : Nat → Prop} (h : Chg a b S) (o : Obj) : Chg a (b.alloc o) S := h.trans (Chg.of_grown_none (grown_alloc b o none) (fun _ => False)) (fun _ e => e.elim)
theorem Chg.drewN {a b : World} {S : Nat → Prop} (h : Chg a b S) (n : Nat) : Chg a (b.drewN n) S := h.trans (Chg.of_grown_none (grown_drewN b n none) (fun _ => False)) (fun _ e => e.elim)
theorem Chg.set {a b : World} {S : Nat → Prop} (h : Chg a b S) {B : Nat} (hB : S B ∨ a.heap.size ≤ B) (i : Nat) (v : Value) : Chg a (b.setCell ⟨B, i, none⟩ v) S :=
  h.trans (Chg.of_grown (grown_set b i v)) (fun j e => by rw [← Option.some.inj e]; exact hB)
theorem Chg.below {a b : World} {S : Nat → Prop} (h : Chg a b S) {B : Nat} (hB : B ≤ a.heap.size) (hS : ∀ i, S i → B ≤ i) : Below B a b :=
  ⟨h.os, h.tape, h.output, h.size, fun i hi => h.block i (by omega) (fun e => by have := hS i e; omega)⟩
theorem Chg.all_new {a b : World} {S : Nat → Prop} (h : Chg a b S) (hS : ∀ i, S i → a.heap.size ≤ i) : Below a.heap.size a b := h.below (Nat.le_refl _) hS
theorem Blk.touch {w w' : World} {b : Nat} {cs : Array Value} {t : TypeId} {S : Nat → Prop} (h : Blk w b cs t) (k : Chg w w' S) (hn : ¬ S b) : Blk w' b cs t := by
  have hlt := h.lt
  unfold Blk at h ⊢
  rw [k.block b hlt hn]
  exact h
theorem Rd.touch {w w' : World} {k : IntKind} {A : Option Addr} {l : List Int} {S : Nat → Prop} (h : Rd w k A l) (hg : Chg w w' S) (hne : ∀ b off, A = some ⟨b, off, none⟩ → ¬ S b) : Rd w' k A l := fun hl => by
  obtain ⟨b, off, e, hlt, hc⟩ := h hl
  refine ⟨b, off, e, Nat.lt_of_lt_of_le hlt hg.size, fun j hj => ?_⟩
  rw [← hc j hj]
  exact World.cell?_of_block (a := ⟨b, off + j, none⟩) (hg.block b hlt (hne b off e))
theorem ownsRow_touch {w w' : World} {base : Nat} {e : TypeId} {size n : Nat} {v : Value} {xs : List Value} {S : Nat → Prop} (h : w.ownsRow base e size v n xs) (hg : Chg w w' S) (hne : ∀ b, v.ownBlock = some b → ¬ S b) : w'.ownsRow base e size v n xs := by
  obtain ⟨h1, h2⟩ := h
  refine ⟨h1, ?_⟩
  rcases h2 with h2 | ⟨g, cap, cur, rfl, r2, hh, r3⟩
  · exact .inl h2
  · refine .inr ⟨g, cap, cur, rfl, r2, ?_, r3⟩
    rw [hg.block g (Array.getElem?_eq_some_iff.1 hh).1 (hne g rfl)]
    exact hh
theorem Own.touch {w w' : World} {base : Nat} {e : TypeId} {k : IntKind} {v : Value} {l : List Int} {S : Nat → Prop} (h : Own w base e k v l) (hg : Chg w w' S) (hne : ∀ b, v.ownBlock = some b → ¬ S b) : Own w' base e k v l := ownsRow_touch h hg hne

/-! ### Slices of numbers -/
theorem Rd.news {w : World} {k : IntKind} {a : Addr} {l : List Int} (h : Rd w k (some a) l) : ∀ j u, (l.map (Value.int k))[j]? = some u → w.cell? (a.add j) = some u := by
  intro j u hu
  have hj : j < l.length := by
    have := (List.getElem?_eq_some_iff.1 hu).1
    simpa using this
  obtain ⟨b, off, e, hlt, hc⟩ := h (by omega)
  have ea : a = ⟨b, off, none⟩ := Option.some.inj e
  subst ea
  have := hc j hj
  rw [Addr.add_lit]
  rw [this]
  simp [List.getD, hj] at hu ⊢
  exact hu
theorem ints_one (k : IntKind) (l : List Int) : ∀ u ∈ l.map (Value.int k), u.oneCell' = true := by
  intro u hu
  simp only [List.mem_map] at hu
  obtain ⟨x, _, rfl⟩ := hu
  rfl

/-- append: numbers behind numbers. -/
theorem wp_app {P : Program} {w : World} {ops : Array Oper} {rest : List Oper} {o : Oper} {a : Act} {Q : Exit → Act → World → Prop} (hgd : o.guard = none) (s x : Operand) (t : TypeId)
    (ho : o.op = .call { callee := .builtin .append, args := #[s, x], argTypes := #[t, t] })
    (e : TypeId) (k : IntKind) (bytes : Nat) (ht : P.underlying t = some (.slice e)) (hinfo : (P.info? e).map (fun i => (i.zero, i.size, i.bytes)) = some (some (.int k 0), 1, bytes)) (hby : bytes ≤ 16)
    (base : Nat) (v : Value) (l : List Int) (hs : a.eval s = v) (hown : Own w base e k v l)
    (A : Option Addr) (c : Nat) (r : List Int) (hx : a.eval x = .slice A r.length c) (hr : Rd w k A r) (hn : A = none → c = 0 ∧ r = [])
    (hlen : l.length + r.length ≤ 1000000000000) (hbase : base ≤ w.heap.size)
    (h : ∀ v' w', Own w' base e k v' (l ++ r) → w.grownBy w' v.ownBlock → (v'.ownBlock = v.ownBlock ∨ v'.ownBlock = some w.heap.size) → wpList P ops Q rest (a.put o.dst v') w') : wpList P ops Q (o :: rest) a w := by
  obtain ⟨i0, hi, hzz⟩ := Option.map_eq_some_iff.1 hinfo
  simp only [Prod.mk.injEq] at hzz
  obtain ⟨hz0, hz1, hz2⟩ := hzz
  cases A with
  | none =>
    obtain ⟨rfl, rfl⟩ := hn rfl
    refine wpList_append_own_none hgd s x t ho base e i0 1 ht hi v l.length _ hs hown hx ?_
    have := h v w (by simpa using hown) (grown_refl w _) (.inl rfl)
    exact this
  | some ad =>
    refine wpList_append_own_at w hgd s x t ho base e i0 (.int k 0) 1 bytes ht hi hz0 hz1 hz2 rfl (by decide) v l.length (l.map (Value.int k)) hs hown ad r.length c (r.map (Value.int k)) hx (by simp) hr.news (ints_one k r) (by simp only [maxLen]; omega)
      (Nat.le_trans (Nat.mul_le_mul hlen hby) (by decide)) hbase ?_
    intro v' w' ho' hg _ hat
    refine h v' w' ?_ hg hat
    unfold Own
    rw [List.map_append, List.length_append]
    exact ho'

/-- make: zeros. -/
theorem wp_mk {P : Program} {w : World} {ops : Array Oper} {rest : List Oper} {o : Oper} {a : Act} {Q : Exit → Act → World → Prop} (hg : o.guard = none) (l : Operand) (t : TypeId) (hop : o.op = Op.makeSlice t l l)
    (e : TypeId) (k : IntKind) (bytes : Nat) (ht : P.underlying t = some (.slice e)) (hinfo : (P.info? e).map (fun i => (i.zero, i.size, i.bytes)) = some (some (.int k 0), 1, bytes)) (hby : bytes ≤ 16)
    (base : Nat) (kl : IntKind) (n : Nat) (hl : a.eval l = .int kl (n : Int)) (hlen : n ≤ 1000000000000) (hbase : base ≤ w.heap.size)
    (h : ∀ w', Own w' base e k (.slice (some ⟨w.heap.size, 0, none⟩) n n) (List.replicate n 0) → w.grownBy w' none → wpList P ops Q rest (a.put o.dst (.slice (some ⟨w.heap.size, 0, none⟩) n n)) w') :
    wpList P ops Q (o :: rest) a w := by
  obtain ⟨i0, hi, hzz⟩ := Option.map_eq_some_iff.1 hinfo
  simp only [Prod.mk.injEq] at hzz
  obtain ⟨hz0, hz1, hz2⟩ := hzz
  refine wpList_make_full w hg l l t hop base e i0 (.int k 0) 1 ht hi hz0 hz1 kl kl (n : Int) (n : Int) n hl hl rfl rfl (Nat.le_trans (Nat.mul_le_mul (hz2 ▸ hby) hlen) (by decide)) (by simp only [maxLen]; omega) hbase ?_
  intro w' ho hgr
  refine h w' ?_ hgr
  unfold Own
  have e1 : (madeCells (Value.int k 0).cells (n * 1)).toList = (List.replicate n (0 : Int)).map (Value.int k) := by
    rw [List.map_replicate]
    apply List.ext_getElem?
    intro j
    by_cases hj : j < n <;> simp [madeCells, Value.cells, List.getElem?_replicate, hj, Nat.mod_one]
  rw [e1] at ho
  simpa using ho

/-- A literal's row. -/
theorem own_lit (w : World) (base : Nat) (e : TypeId) (k : IntKind) (l : List Int) (hb : base ≤ w.heap.size) (hl : l.length ≤ 1000000) :
    Own (w.alloc (.cells (l.map (Value.int k)).toArray e)) base e k (.slice (some ⟨w.heap.size, 0, none⟩) l.length l.length) l := by
  have := World.ownsRow_lit (base := base) (e := e) (size := 1) w (l.map (Value.int k)).toArray l.length hb (by simp only [maxLen]; omega) (by simp)
  simpa [Own] using this
theorem Own.drewN {w : World} {base : Nat} {e : TypeId} {k : IntKind} {v : Value} {l : List Int} (h : Own w base e k v l) (n : Nat) : Own (w.drewN n) base e k v l := h
theorem Rd.drewN {w : World} {k : IntKind} {A : Option Addr} {l : List Int} (h : Rd w k A l) (n : Nat) : Rd (w.drewN n) k A l := h.grown (grown_drewN w n none) (by simp)
theorem Rd.alloc {w : World} {k : IntKind} {A : Option Addr} {l : List Int} (h : Rd w k A l) (o : Obj) : Rd (w.alloc o) k A l := h.grown (grown_alloc w o none) (by simp)
theorem Own.grown {w w1 : World} {base : Nat} {e : TypeId} {k : IntKind} {v : Value} {l : List Int} (h : Own w base e k v l) {row : Option Nat} (hg : w.grownBy w1 row) (hne : v.ownBlock = none ∨ v.ownBlock ≠ row) : Own w1 base e k v l := by
  refine h.touch (Chg.of_grown hg) (fun b hb e => ?_)
  rcases hne with hne | hne
  · rw [hne] at hb
    cases hb
  · exact hne (hb.trans e.symm)
theorem Own.lt {w : World} {base : Nat} {e : TypeId} {k : IntKind} {v : Value} {l : List Int} (h : Own w base e k v l) (b : Nat) (hb : v.ownBlock = some b) : base ≤ b ∧ b < w.heap.size := own_row_lt h b hb
/-- A slice as it is handed on: how long, how much room, what it reads. -/
structure Sl (w : World) (k : IntKind) (v : Value) (l : List Int) : Prop where
  look : ∃ A c, v = .slice A l.length c ∧ l.length ≤ c ∧ Rd w k A l ∧ (A = none → c = 0 ∧ l = [])
theorem Sl.mk' {w : World} {k : IntKind} {A : Option Addr} {c : Nat} {l : List Int} (h : Rd w k A l) (hc : l.length ≤ c) (hn : A = none → c = 0 ∧ l = []) : Sl w k (.slice A l.length c) l := ⟨A, c, rfl, hc, h, hn⟩
theorem Sl.nil (w : World) (k : IntKind) : Sl w k (.slice none 0 0) [] := ⟨none, 0, rfl, Nat.le_refl _, Rd.nil w k none, fun _ => ⟨rfl, rfl⟩⟩
theorem Own.sl {w : World} {base : Nat} {e : TypeId} {k : IntKind} {v : Value} {l : List Int} (h : Own w base e k v l) : Sl w k v l := by
  obtain ⟨A, cap, h1, h2, h3, h4⟩ := h.look
  refine ⟨A, cap, h1, h2, h3, fun e => ⟨?_, h4 e⟩⟩
  rcases h.2 with ⟨hv, _⟩ | ⟨g, cap', cur, hv, _⟩
  · rw [h1] at hv
    simp only [Value.slice.injEq] at hv
    exact hv.2.2
  · rw [h1] at hv
    simp only [Value.slice.injEq] at hv
    rw [e] at hv
    cases hv.1
theorem Sl.below {w w' : World} {k : IntKind} {v : Value} {l : List Int} (h : Sl w k v l) (hb : Below w.heap.size w w') : Sl w' k v l := by
  obtain ⟨A, c, h1, h2, h3, h4⟩ := h.look
  exact ⟨A, c, h1, h2, h3.below hb, h4⟩
theorem Sl.touch {w w' : World} {k : IntKind} {v : Value} {l : List Int} {S : Nat → Prop} (h : Sl w k v l) (hg : Chg w w' S) (hne : ∀ b, v.ownBlock = some b → ¬ S b) : Sl w' k v l := by
  obtain ⟨A, c, rfl, h2, h3, h4⟩ := h.look
  exact ⟨A, c, rfl, h2, h3.touch hg (fun b off e => hne b (by rw [e]; rfl)), h4⟩

theorem Own.len {w : World} {base : Nat} {e : TypeId} {k : IntKind} {A : Option Addr} {n c : Nat} {l : List Int} (h : Own w base e k (.slice A n c) l) : n = l.length := by
  obtain ⟨A', c', hv, _⟩ := h.look
  simp only [Value.slice.injEq] at hv
  exact hv.2.1
theorem Own.cell {w : World} {base : Nat} {e : TypeId} {k : IntKind} {g n c : Nat} {l : List Int} (h : Own w base e k (.slice (some ⟨g, 0, none⟩) n c) l) {j : Nat} (hj : j < l.length) : w.cell? ⟨g, j, none⟩ = some (.int k (l.getD j 0)) := by
  have e1 := h.len
  subst e1
  have := World.ownsRow.cellAt h j (by simpa using hj)
  simpa [List.getD, hj] using this
theorem Own.free {w : World} {base : Nat} {e : TypeId} {k : IntKind} {g n c : Nat} {l : List Int} (h : Own w base e k (.slice (some ⟨g, 0, none⟩) n c) l) (j : Nat) : w.frozen? ⟨g, j, none⟩ = false := by
  have e1 := h.len
  subst e1
  exact World.ownsRow.frozenAt h j
theorem Own.store {w : World} {base : Nat} {e : TypeId} {k : IntKind} {g n c : Nat} {l : List Int} (h : Own w base e k (.slice (some ⟨g, 0, none⟩) n c) l) (j : Nat) (x : Int) : Own (w.setCell ⟨g, j, none⟩ (.int k x)) base e k (.slice (some ⟨g, 0, none⟩) n c) (l.set j x) := by
  have e1 := h.len
  subst e1
  have := (World.ownsRow.stored h j (.int k x)).1
  unfold Own
  simpa [List.map_set] using this

theorem Sl.rd {w : World} {k : IntKind} {A : Option Addr} {n c : Nat} {l : List Int} (h : Sl w k (.slice A n c) l) : Rd w k A l := by
  obtain ⟨A', c', hv, _, hr, _⟩ := h.look
  simp only [Value.slice.injEq] at hv
  rw [hv.1]
  exact hr

end Go.Proofs.YtlpkandfmbnlnaaDoor.Mem
