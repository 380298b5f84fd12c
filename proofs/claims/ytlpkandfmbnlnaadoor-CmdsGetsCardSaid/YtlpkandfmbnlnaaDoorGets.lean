/- CmdsGets: the walk. -/
import Derived.Test.YtlpkandfmbnlnaaDoorCmdsR
import Derived.Test.YtlpkandfmbnlnaaDoorR1
import Derived.BigQuiet
import Derived.Deep.Slices
import Derived.Deep.Fields
import Derived.ChangeSame
import Derived.OpenShut
import Derived.Carry
import Derived.Deep.QuietTactic
set_option linter.unusedVariables false
set_option linter.unusedSimpArgs false
set_option maxRecDepth 100000
namespace Go.Proofs.YtlpkandfmbnlnaaDoor.Gets
open Go Go.RowKit Go.Proofs.YtlpkandfmbnlnaaDoor.Mem Go.Proofs.YtlpkandfmbnlnaaDoor.Num Go.Proofs.YtlpkandfmbnlnaaDoor.Fix Go.Proofs.YtlpkandfmbnlnaaDoor.Ref Go.Proofs.YtlpkandfmbnlnaaDoor.Cmd

/-- The bytes of the first k commands. -/
def allB (cs : List C) (k : Nat) : List Int := (cs.take k).flatMap encB
theorem encB_len (c : C) : (encB c).length ≤ 11 := by
  unfold encB
  split
  · rw [cb_len]; exact Nat.le_refl _
  · simp
theorem encB_bytes (c : C) : Bytes (encB c) := by
  unfold encB
  split
  · unfold cb
    exact (((be_bytes _ _).append (be_bytes _ _)).append (be_bytes _ _)).append (be_bytes _ _)
  · intro x hx; cases hx
theorem allB_succ {cs : List C} {k : Nat} (h : k < cs.length) : allB cs (k + 1) = allB cs k ++ encB cs[k] := by
  unfold allB
  rw [List.take_succ_eq_append_getElem h, List.flatMap_append]
  simp
theorem allB_len (cs : List C) (k : Nat) : (allB cs k).length ≤ 11 * k := by
  induction k with
  | zero => simp [allB]
  | succ k ih =>
    by_cases h : k < cs.length
    · rw [allB_succ h, List.length_append]
      have := encB_len cs[k]
      omega
    · have e : allB cs (k + 1) = allB cs k := by
        unfold allB
        rw [List.take_of_length_le (by omega), List.take_of_length_le (by omega)]
      rw [e]
      omega
theorem allB_bytes (cs : List C) (k : Nat) : Bytes (allB cs k) := by
  intro x hx
  unfold allB at hx
  obtain ⟨c, _, hc⟩ := List.mem_flatMap.1 hx
  exact encB_bytes c x hc

/-- A row of commands that is read. -/
def RdC (w : World) (A : Option Addr) (cs : List C) : Prop :=
  0 < cs.length → ∃ b off, A = some ⟨b, off, none⟩ ∧ b < w.heap.size ∧ ∀ (j : Nat) (h : j < cs.length),
    w.cell? ⟨b, off + j * 4, none⟩ = some (.int .i64 cs[j].kind) ∧ w.cell? ⟨b, off + j * 4 + 1, none⟩ = some (.int .i64 cs[j].chain) ∧
    w.cell? ⟨b, off + j * 4 + 2, none⟩ = some (.int .u64 cs[j].ep) ∧ w.cell? ⟨b, off + j * 4 + 3, none⟩ = some (.int .i64 cs[j].node)

section
open Go.ChangeShapes Go.WideShapes Go.ChangeAt Go.Deep
/-- An argument that is a slice of structs, each field one cell: where its elements' fields lie, and that each reads by its own type. -/
theorem fields_at {H : Type} {enc : TypeId × Value → H} {P : Program} {w : World} {base : Nat} {spare : Nat → Bool} {held : Bool} {t e : TypeId} {fs : Array Field} {a0 : Option Addr} {len cap : Nat} {d : DataW H} {p : List MemPlace}
    (ht : P.underlying t = some (.slice e)) (he : P.underlying e = some (.struct fs)) (hone : oneCellFields P fs = true) (hC : P.cellsOf e = fs.size) (h0 : 0 < fs.size) (hl : 0 < len)
    (h : DataW.Trod enc P w base spare held t (.slice a0 len cap) d p) :
    ∃ b off : Nat, a0 = some ⟨b, off, none⟩ ∧ ∀ i, i < len → ∃ n, ∀ (j : Nat) (f : Field), fs[j]? = some f → ∃ v y, w.cell? ⟨b, off + (i * fs.size + j), none⟩ = some v ∧ DataW.trod enc P w base spare held n f.type [v] = some y := by
  obtain ⟨fuel, hf⟩ := h
  rcases open_slice ht hf with ⟨hcs, _⟩ | ⟨a, l, c, m, n, D, Pl, hcs, _, hlc, _, hm, _, hel⟩
  · simp [Value.cells] at hcs
    omega
  · simp [Value.cells] at hcs
    obtain ⟨rfl, rfl, rfl⟩ := hcs
    have hlm : len ≤ m := by rw [hm]; split <;> omega
    have one : ∀ i, i < len → ∃ n, ∀ (j : Nat) (f : Field), fs[j]? = some f → ∃ v y, w.cell? (a.add (i * fs.size + j)) = some v ∧ DataW.trod enc P w base spare held n f.type [v] = some y := by
      intro i hi
      obtain ⟨cs, hc, hr⟩ := hel i (by omega)
      rw [hC] at hc
      obtain ⟨ys, k, _, _, hlen, hyl, hfl⟩ := DataW.trod_struct he hr
      obtain ⟨_, hcl, hat⟩ := World.cells?_some hc
      refine ⟨k, fun j f hj => ?_⟩
      have hjs : j < fs.size := (Array.getElem?_eq_some_iff.1 hj).1
      obtain ⟨ho, hk⟩ := hone_of hone j f hj
      have hcell := hat j hjs
      have h1 := hfl j f hj
      rw [ho, hk, List.drop_eq_getElem_cons (show j < cs.length by omega), List.take_succ_cons, List.take_zero, List.getElem?_eq_getElem (show j < ys.length by omega)] at h1
      refine ⟨cs[j]'(by omega), ys[j]'(by omega), ?_, h1⟩
      rw [← Go.Deep.add_add, hcell, List.getElem?_eq_getElem (show j < cs.length by omega)]
    have hpl : a.spot = none := by
      obtain ⟨k, hk⟩ := one 0 hl
      obtain ⟨v, _, hv, _⟩ := hk 0 fs[0] (Array.getElem?_eq_getElem h0)
      rw [Nat.zero_mul, Nat.zero_add, Addr.add_zero'] at hv
      unfold World.cell? at hv
      cases hs : a.spot with
      | none => rfl
      | some x =>
        rw [hs] at hv
        revert hv
        split <;> simp
    obtain ⟨b, off, spot⟩ := a
    subst hpl
    refine ⟨b, off, rfl, fun i hi => ?_⟩
    obtain ⟨k, hk⟩ := one i hi
    refine ⟨k, fun j f hj => ?_⟩
    have := hk j f hj
    rwa [Addr.add_lit] at this

theorem cmds_at {H : Type} {enc : TypeId × Value → H} {W : World} {base : Nat} {spare : Nat → Bool} {held : Bool} {a0 : Option Addr} {len cap : Nat} {d : DataW H} {p : List MemPlace} (h : DataW.Trod enc Tryd.prog W base spare held 44 (.slice a0 len cap) d p) :
    ∃ cs : List C, cs.length = len ∧ RdC W a0 cs ∧ (∀ c, c ∈ cs → 0 ≤ c.ep ∧ c.ep < 18446744073709551616) := by
  by_cases h0 : len = 0
  · subst h0
    exact ⟨[], rfl, fun h => absurd h (by simp), fun c hc => by cases hc⟩
  · obtain ⟨b, off, rfl, hat⟩ := fields_at Tryd.underlying44 Tryd.underlying24 (by kernel_rfl) (by kernel_rfl) (by decide) (by omega) h
    have hex : ∀ i, i < len → ∃ z : C, (W.cell? ⟨b, off + i * 4, none⟩ = some (.int .i64 z.kind) ∧ W.cell? ⟨b, off + i * 4 + 1, none⟩ = some (.int .i64 z.chain) ∧ W.cell? ⟨b, off + i * 4 + 2, none⟩ = some (.int .u64 z.ep) ∧ W.cell? ⟨b, off + i * 4 + 3, none⟩ = some (.int .i64 z.node)) ∧ 0 ≤ z.ep ∧ z.ep < 18446744073709551616 := by
      intro i hi
      obtain ⟨n, hn⟩ := hat i hi
      obtain ⟨v0, y0, c0, t0⟩ := hn 0 _ rfl
      obtain ⟨v1, y1, c1, t1⟩ := hn 1 _ rfl
      obtain ⟨v2, y2, c2, t2⟩ := hn 2 _ rfl
      obtain ⟨v3, y3, c3, t3⟩ := hn 3 _ rfl
      obtain ⟨x0, e0, _, _⟩ := DataW.trod_int Tryd.underlying3 t0
      obtain ⟨x1, e1, _, _⟩ := DataW.trod_int Tryd.underlying3 t1
      obtain ⟨x2, e2, _, w2⟩ := DataW.trod_int Tryd.underlying22 t2
      obtain ⟨x3, e3, _, _⟩ := DataW.trod_int Tryd.underlying3 t3
      simp at e0 e1 e2 e3
      subst e0
      subst e1
      subst e2
      subst e3
      have h2 : 0 ≤ x2 ∧ x2 ≤ 18446744073709551615 := by
        simp only [Lit.wf, Bool.and_eq_true, decide_eq_true_eq] at w2
        exact w2
      exact ⟨⟨x0, x1, x2, x3⟩, ⟨c0, c1, c2, c3⟩, h2.1, by simp only; omega⟩
    have hch : ∀ n, n ≤ len → ∃ zs : List C, zs.length = n ∧ (∀ (i : Nat) (hi : i < zs.length), W.cell? ⟨b, off + i * 4, none⟩ = some (.int .i64 zs[i].kind) ∧ W.cell? ⟨b, off + i * 4 + 1, none⟩ = some (.int .i64 zs[i].chain) ∧ W.cell? ⟨b, off + i * 4 + 2, none⟩ = some (.int .u64 zs[i].ep) ∧ W.cell? ⟨b, off + i * 4 + 3, none⟩ = some (.int .i64 zs[i].node)) ∧ ∀ c, c ∈ zs → 0 ≤ c.ep ∧ c.ep < 18446744073709551616 := by
      intro n
      induction n with
      | zero => exact fun _ => ⟨[], rfl, fun i hi => absurd hi (by simp), fun c hc => by cases hc⟩
      | succ n ih =>
        intro hn
        obtain ⟨zs, e, g, g2⟩ := ih (by omega)
        obtain ⟨z, hz, hz2⟩ := hex n (by omega)
        refine ⟨zs ++ [z], by simp [e], fun i hi => ?_, fun c hc => ?_⟩
        · by_cases c : i < n
          · rw [List.getElem_append_left (by omega)]
            exact g i (by omega)
          · have : i = n := by simp at hi; omega
            subst this
            rw [List.getElem_append_right (by omega)]
            simpa [e] using hz
        · rcases List.mem_append.1 hc with h | h
          · exact g2 c h
          · have : c = z := by simpa using h
            subst this
            exact hz2
    obtain ⟨zs, hlen, hcells, hep⟩ := hch len (Nat.le_refl _)
    refine ⟨zs, hlen, fun _ => ⟨b, off, rfl, ?_, hcells⟩, hep⟩
    obtain ⟨c, _⟩ := hcells 0 (by omega)
    exact World.block_lt_of_cell? W _ c
end

theorem setR_in {w : World} {I B : Nat} {l : List Int} {err : Int} {t : TypeId} {s s' : Value} {e : Int} (h : In w I l err) (hB : Blk w B #[s, .int .i64 e] t) (hs : ∀ x, s ≠ .int .u8 x) (hs' : ∀ x, s' ≠ .int .u8 x) (hBI : B ≠ I) (e' : Int) : In (setR w B s' e') I l err :=
  (h.set hB (no_u8R hs) hBI 0 s').set (hB.set 0 s') (no_u8R hs') hBI 1 _
/-- A row of bytes is no In's block. -/
theorem rd_grown {w w' : World} {A : Option Addr} {l r : List Int} {I : Nat} {e : Int} (h : Rd w .u8 A l) (hI : In w I r e) (hg : w.grownBy w' (some I)) : Rd w' .u8 A l := fun hl => by
  obtain ⟨b, off, rfl, hlt, hc⟩ := h hl
  have hne : b ≠ I := by
    intro e2
    subst e2
    obtain ⟨A2, c2, hB, _⟩ := hI
    have h0 := hc 0 hl
    rw [Nat.add_zero] at h0
    match off, h0 with
    | 0, h0 =>
      rw [hB.cell (i := 0) (v := .slice A2 r.length c2) rfl] at h0
      cases h0
    | 1, h0 =>
      rw [hB.cell (i := 1) (v := .int .i64 e) rfl] at h0
      cases h0
    | n + 2, h0 =>
      unfold Blk at hB
      simp [World.cell?, hB] at h0
  exact ⟨b, off, rfl, Nat.lt_of_lt_of_le hlt hg.size, fun j hj => hg.cell (hc j hj) (by simp; exact hne)⟩

theorem nL_le (l : List Int) (e : Int) (n : Nat) : (nL l e n).length ≤ l.length := by
  unfold nL
  split
  · exact Nat.le_refl _
  · split
    · simp
    · simp
theorem nL_bytes (l : List Int) (e : Int) (n : Nat) (h : Bytes l) : Bytes (nL l e n) := by
  unfold nL
  split
  · exact h
  · split
    · intro x hx; cases hx
    · exact h.drop n
/-- The first loop's state: what is put, what is gathered. -/
def InvG (w : World) (all : Value) (lo la : List Int) (wr : World) : Prop :=
  ∃ own, Out wr w.heap.size w.heap.size own lo 2000 0 ∧ (∀ b, own = some b → w.heap.size < b ∧ b < wr.heap.size) ∧ Own wr w.heap.size 5 .u8 all la ∧
    (∀ b, all.ownBlock = some b → b ≠ w.heap.size ∧ own ≠ some b) ∧ Below w.heap.size w wr
theorem InvG.to {w wr : World} {all : Value} {lo la : List Int} (h : InvG w all lo la wr) : Below w.heap.size w wr := by
  obtain ⟨_, _, _, _, _, hB⟩ := h
  exact hB
theorem InvG.own {w wr : World} {all : Value} {lo la : List Int} (h : InvG w all lo la wr) : Own wr w.heap.size 5 .u8 all la := by
  obtain ⟨_, _, _, hA, _, _⟩ := h
  exact hA
theorem InvG.start (w : World) : InvG w (.slice none 0 0) [] [] (w.alloc (.cells #[.slice none 0 0, .int .i64 2000, .int .i64 0] 106)) :=
  ⟨none, ⟨.slice none 0 0, Blk.new w _ _, Own.nil _ _ _ _, rfl, Nat.le_refl _⟩, fun b e => (by cases e), Own.nil _ _ _ _, fun b e => (by simp [Value.ownBlock] at e), (Below.refl _ _).alloc (Nat.le_refl _) _⟩
theorem InvG.below {w wr w' : World} {all : Value} {lo la : List Int} (h : InvG w all lo la wr) (hb : Below wr.heap.size wr w') : InvG w all lo la w' := by
  obtain ⟨own, hO, hown, hA, hdis, hB⟩ := h
  exact ⟨own, hO.below hb, fun b e => ⟨(hown b e).1, Nat.lt_of_lt_of_le (hown b e).2 hb.size⟩, hA.below hb, hdis, hB.trans (hb.mono hB.size)⟩
theorem InvG.put {w wr w' : World} {all : Value} {lo' la : List Int} {own : Option Nat} (h1 : ∀ b, own = some b → w.heap.size < b ∧ b < wr.heap.size) (hA : Own wr w.heap.size 5 .u8 all la)
    (hdis : ∀ b, all.ownBlock = some b → b ≠ w.heap.size ∧ own ≠ some b) (hB : Below w.heap.size w wr)
    (hO : ∃ own', Out w' w.heap.size w.heap.size own' lo' 2000 0 ∧ (own' = own ∨ ∃ b, own' = some b ∧ wr.heap.size ≤ b)) (hc : Chg wr w' (Outs w.heap.size own)) : InvG w all lo' la w' := by
  obtain ⟨own', hO', hor⟩ := hO
  have hlt : w.heap.size < wr.heap.size ∨ True := .inr trivial
  refine ⟨own', hO', fun b e => ?_, hA.touch hc (fun b hb => ?_), fun b hb => ?_, hB.trans (hc.below hB.size (fun i hi => ?_))⟩
  · rcases hor with rfl | ⟨b2, rfl, h2⟩
    · exact ⟨(h1 b e).1, Nat.lt_of_lt_of_le (h1 b e).2 hc.size⟩
    · obtain rfl := Option.some.inj e
      obtain ⟨v, hblk, ho, hv, _⟩ := hO'
      refine ⟨?_, (own_row_lt ho _ hv).2⟩
      have := hB.size
      rcases Nat.lt_or_ge w.heap.size b2 with h | h
      · exact h
      · exfalso
        have : b2 = w.heap.size := by omega
        subst this
        exact own_row_blk_ne ho hblk (by decide) hv
  · rintro (e | e)
    · exact (hdis b hb).1 e
    · exact (hdis b hb).2 e
  · refine ⟨(hdis b hb).1, fun e => ?_⟩
    rcases hor with rfl | ⟨b2, rfl, h2⟩
    · exact (hdis b hb).2 e
    · obtain rfl := Option.some.inj e
      have := (own_row_lt hA b2 hb).2
      omega
  · rcases hi with rfl | e
    · exact Nat.le_refl _
    · exact Nat.le_of_lt (h1 i e).1
theorem InvG.app {w wr w' : World} {all v' : Value} {lo la r : List Int} (h : InvG w all lo la wr) (ho : Own w' w.heap.size 5 .u8 v' r) (hg : wr.grownBy w' all.ownBlock) (hat : v'.ownBlock = all.ownBlock ∨ v'.ownBlock = some wr.heap.size) : InvG w v' lo r w' := by
  obtain ⟨own, hO, hown, hA, hdis, hB⟩ := h
  have hc : Chg wr w' (fun k => all.ownBlock = some k) := Chg.of_grown hg
  have hLlt : w.heap.size < wr.heap.size := by
    obtain ⟨v, hblk, _⟩ := hO
    exact hblk.lt
  refine ⟨own, hO.touch hc (fun e => (hdis _ e).1 rfl) (fun b hb e => (hdis _ e).2 hb), fun b e => ⟨(hown b e).1, Nat.lt_of_lt_of_le (hown b e).2 hc.size⟩, ho, fun b hb => ?_, hB.trans (hc.below hB.size (fun i hi => (own_row_lt hA i hi).1))⟩
  rcases hat with e | e
  · exact hdis b (e.symm.trans hb)
  · obtain rfl := Option.some.inj (e.symm.trans hb)
    exact ⟨by omega, fun e2 => by have := (hown _ e2).2; omega⟩
/-- The second loop's state: where In and In's twin lie. -/
def Inv2 (w : World) (I B : Nat) (wr : World) : Prop :=
  ∃ l e A c, l.length ≤ 1000 ∧ Bytes l ∧ In wr I l e ∧ Blk wr B #[.slice A l.length c, .int .i64 e] 72 ∧ RIn wr (.agg #[.slice A l.length c, .int .i64 e]) l e ∧ Below w.heap.size w wr
theorem chk_bne (x : Int) : (x != x) = false := by simp

set_option maxHeartbeats 8000000 in
theorem gets_any (A : Option Addr) (cap : Nat) (cs : List C) (u : Value) (bs : List Int) (w : World) (hE : Txt.Env w) (hR : RdC w A cs) (hep : ∀ c, c ∈ cs → 0 ≤ c.ep ∧ c.ep < 18446744073709551616) (hs : Sl w .u8 u bs) (hb : Bytes bs)
    (haw : R.catenarylaw08_awake.f = some true) :
    Calls Tryd.prog 8 #[.slice A cs.length cap, u] w fun e w' => e = .returned (.bool true) ∧ Below w.heap.size w w' := by
  have HNew := fun W => Lib.hid (new_any 2000 W (by decide))
  have HEnv := Lib.hid hE
  have HS := Lib.hid hs
  have HBs := Lib.hid hb
  have HRd := Lib.hid hR
  have HEp := Lib.hid hep
  clear hE hs hb hR hep
  go_enter Tryd.func8, Tryd.ntmps8
  go_wp2_with fail
  refine (HNew _).out.mono ?_
  rintro e w1 ⟨rfl, rfl⟩
  go_wp2_with fail
  go_loopw [6, 7] (fun all i wr => ∃ k : Nat, k ≤ cs.length ∧ k ≤ 20 ∧ i = .int .i64 k ∧ Hid (InvG w all (allB cs k) (allB cs k) wr)) (fun _ i _ => 20 - (intOf i).toNat)
  case atStart => exact ⟨0, by omega, by omega, rfl, InvG.start w⟩
  case round =>
    obtain ⟨k, hk, hk20, rfl, HI⟩ := hrel
    by_cases hlt : k < cs.length ∧ k < 20
    · obtain ⟨hlt1, hlt2⟩ := hlt
      have b1 : decide ((k : Int) < cs.length) = true := by simp; omega
      have b2 : decide ((k : Int) < 20) = true := by simp; omega
      obtain ⟨own, hO, hown, hA, hdis, hB⟩ := HI.out
      obtain ⟨rb, off, rfl, hrb, hcell⟩ := HRd.out (by omega)
      obtain ⟨q0, q1, q2, q3⟩ := hcell k hlt1
      have hepk := HEp.out cs[k] (List.getElem_mem _)
      have HPut := Lib.hid (cput_any w.heap.size w.heap.size own (allB cs k) 2000 cs[k] wr hO (fun b e => (hown b e).2) (by have := allB_len cs k; omega) (by decide) hepk.1 hepk.2 hB.size)
      have HNxt : ∀ W', _ → _ → Hid (InvG w u6 (allB cs k ++ encB cs[k]) (allB cs k) W') := fun W' a b => Lib.hid (InvG.put hown hA hdis hB a b)
      have HCk := fun W => Lib.hid (rcheck_any cs[k] W hepk.1)
      have HBy := fun W (hz : chk cs[k] = 0) => Lib.hid (bytes_any cs[k] W hz hepk.1 hepk.2)
      have HSu := Lib.hid (allB_succ hlt1)
      have HEn : Hid (encB cs[k] = if chk cs[k] = 0 then cb cs[k] else []) := Lib.hid rfl
      have HCl := Lib.hid (cb_len cs[k])
      have HLn := Lib.hid (allB_len cs k)
      have HLn2 := Lib.hid (show k < 20 from hlt2)
      generalize cs[k] = ck at *
      obtain ⟨K, H, E, N⟩ := ck
      simp only at q0 q1 q2 q3
      have Q0 : ∀ W, Below w.heap.size w W → W.cell? ⟨rb, off + k * 4, none⟩ = some (.int .i64 K) := fun W h => (h.cell (p := ⟨rb, off + k * 4, none⟩) hrb).trans q0
      have Q1 : ∀ W, Below w.heap.size w W → W.cell? ⟨rb, off + k * 4 + 1, none⟩ = some (.int .i64 H) := fun W h => (h.cell (p := ⟨rb, off + k * 4 + 1, none⟩) hrb).trans q1
      have Q2 : ∀ W, Below w.heap.size w W → W.cell? ⟨rb, off + k * 4 + 2, none⟩ = some (.int .u64 E) := fun W h => (h.cell (p := ⟨rb, off + k * 4 + 2, none⟩) hrb).trans q2
      have Q3 : ∀ W, Below w.heap.size w W → W.cell? ⟨rb, off + k * 4 + 3, none⟩ = some (.int .i64 N) := fun W h => (h.cell (p := ⟨rb, off + k * 4 + 3, none⟩) hrb).trans q3
      have HQ := Lib.hid (And.intro Q0 (And.intro Q1 (And.intro Q2 Q3)))
      have p0 := Q0 wr hB
      have p1 := Q1 wr hB
      have p2 := Q2 wr hB
      have p3 := Q3 wr hB
      clear hO hown hA hdis hB hcell q0 q1 q2 q3 hepk Q0 Q1 Q2 Q3 HI hrb
      unfold C.v at HPut HCk HBy
      unfold C.cells at HCk
      simp only at HPut HCk HBy
      generalize chk ⟨K, H, E, N⟩ = x at *
      have hbne := chk_bne x
      go_wp2_with fail
      refine HPut.out.mono ?_
      rintro e w1 ⟨rfl, h1, h2⟩
      have HI1 := HNxt w1 h1 h2
      clear HNxt h1 h2
      have p0 := HQ.out.1 w1 HI1.out.to
      have p1 := HQ.out.2.1 w1 HI1.out.to
      have p2 := HQ.out.2.2.1 w1 HI1.out.to
      have p3 := HQ.out.2.2.2 w1 HI1.out.to
      go_wp2_with fail
      refine (HCk _).out.mono ?_
      rintro e w2 ⟨rfl, rfl⟩
      have HI2 := Lib.hid (HI1.out.below (show Below w1.heap.size w1 (w1.alloc (.cells #[.int .i64 K, .int .i64 H, .int .u64 E, .int .i64 N] 24)) by go_grown))
      by_cases hx : x = 0
      · have he : encB ⟨K, H, E, N⟩ = cb ⟨K, H, E, N⟩ := HEn.out.trans (if_pos hx)
        have HE2 := Lib.hid he
        have HBy2 := fun W => HBy W hx
        subst hx
        clear HEn he
        have p0 := HQ.out.1 _ HI2.out.to
        have p1 := HQ.out.2.1 _ HI2.out.to
        have p2 := HQ.out.2.2.1 _ HI2.out.to
        have p3 := HQ.out.2.2.2 _ HI2.out.to
        go_wp2_with fail
        refine (HBy2 _).out.mono ?_
        rintro e w3 ⟨v3, rfl, h1, h2⟩
        have HI3 := Lib.hid (HI2.out.below h2)
        obtain ⟨A3, c3, rfl, hc3, hr3, hn3⟩ := h1.sl.look
        have HR3 := Lib.hid hr3
        have HN3 := Lib.hid hn3
        have HO3 := Lib.hid HI3.out.own
        have HSz := Lib.hid HI3.out.to.size
        clear h1 h2 hr3 hn3 hc3 p0 p1 p2 p3
        go_wp2_with (at_builtin; refine wp_app rfl _ _ _ rfl 5 .u8 1 Tryd.underlying27 info5 (by decide) w.heap.size u6 (allB cs k) rfl HO3.out A3 c3 (cb ⟨K, H, E, N⟩) rfl HR3.out HN3.out (by have := HLn.out; have := HLn2.out; rw [HCl.out]; omega) HSz.out ?_; intro v' w' ho' hg hat; have HI4 := Lib.hid (HI3.out.app ho' hg hat); clear ho' hg hat)
        go_roundw
        case rel => exact ⟨k + 1, by omega, by omega, by go_num, by have := HI4.out; rw [HE2.out] at this; rw [HSu.out, HE2.out]; exact this⟩
        case measure => simp [intOf]; omega
      · have hxe : (x == 0) = false := by simp [hx]
        have he : encB ⟨K, H, E, N⟩ = [] := HEn.out.trans (if_neg hx)
        have HE2 := Lib.hid he
        clear HEn he hx HBy
        go_wp2_with fail
        go_roundw
        case rel => exact ⟨k + 1, by omega, by omega, by go_num, by have := HI2.out; rw [HSu.out, HE2.out, List.append_nil]; rwa [HE2.out, List.append_nil] at this⟩
        case measure => simp [intOf]; omega
    · have hd : ¬ k < cs.length ∨ (k < cs.length ∧ ¬ k < 20) := by omega
      have HF := Lib.hid (show (allB cs k).length ≤ 220 by have := allB_len cs k; omega)
      have HFb := Lib.hid (allB_bytes cs k)
      generalize allB cs k = l at *
      clear HEp HRd
      have HDone : Hid (Calls Tryd.prog 49 #[.pointer (some ⟨w.heap.size, 0, none⟩)] wr fun e w' => ∃ u, e = .returned (.tuple #[u, .int .i64 0]) ∧ Own w' wr.heap.size 5 .u8 u (doneS l 0) ∧ Below wr.heap.size wr w') := by
        obtain ⟨own, hO, _⟩ := HI.out
        exact Lib.hid (done_any w.heap.size w.heap.size own l 2000 0 wr hO (by have := HF.out; omega))
      rcases hd with hd | hd
      all_goals (
        go_wp2_with fail
        refine HDone.out.mono ?_
        rintro e w2 ⟨v2, rfl, h1, h2⟩
        have HI2 := Lib.hid (HI.out.below h2)
        obtain ⟨A2, c2, rfl, hc2, hr2, hn2⟩ := h1.sl.look
        obtain ⟨A3, c3, rfl, hc3, hr3, hn3⟩ := HI2.out.own.sl.look
        have e1 : doneS l 0 = l := if_pos rfl
        rw [e1] at hr2 hn2 hc2 ⊢
        have HSame : Hid (Calls Tryd.prog 18 #[.slice A2 l.length c2, .slice A3 l.length c3] w2 fun e w' => e = .returned (.bool true) ∧ ∃ q, w2.drewN q = w') := Lib.hid (by
          refine (same_any (.slice A2 l.length c2) (.slice A3 l.length c3) l l w2 ⟨A2, c2, rfl, hc2, hr2, hn2⟩ ⟨A3, c3, rfl, hc3, hr3, hn3⟩ (by have := HF.out; omega)).mono ?_
          rintro e w' ⟨rfl, h⟩
          exact ⟨by simp, h⟩)
        clear h1 h2 hr2 hn2 hr3 hn3 hc2
        go_wp2_with fail
        refine HSame.out.mono ?_
        rintro e w3 ⟨rfl, q, rfl⟩
        have HI3 := Lib.hid (HI2.out.below (Joins.below_draws w2.heap.size w2 q))
        have HCut := Lib.hid (cut_any u bs 40 (w2.drewN q) (HS.out.below ((Below.refl _ _).trans HI3.out.to)))
        go_wp2_with fail
        refine HCut.out.mono ?_
        rintro e w4 ⟨v4, rfl, h1, rfl⟩
        have hlen4 : (bs.take 40).length ≤ 40 := by simp; omega
        have HB4 := Lib.hid (HBs.out.take 40)
        generalize bs.take 40 = b4 at *
        obtain ⟨A4, c4, rfl, hc4, hr4, hn4⟩ := h1.look
        have HR4 := Lib.hid hr4
        have HN4 := Lib.hid hn4
        have HL4 := Lib.hid hlen4
        have HO3 := Lib.hid HI3.out.own
        have HSz := Lib.hid HI3.out.to.size
        clear h1 hr4 hn4 hc4 hlen4 HCut HSame HDone
        go_wp2_with (at_builtin; refine wp_app rfl _ _ _ rfl 5 .u8 1 Tryd.underlying27 info5 (by decide) w.heap.size (.slice A3 l.length c3) l rfl HO3.out A4 c4 b4 rfl HR4.out HN4.out (by have := HF.out; have := HL4.out; omega) HSz.out ?_; intro v5 w5 ho' hg hat; have HI5 := Lib.hid (HI3.out.app ho' hg hat); clear ho' hg hat)
        have hm1 : (l ++ b4).length ≤ 300 := by rw [List.length_append]; have := HF.out; have := HL4.out; omega
        have hm2 : Bytes (l ++ b4) := HFb.out.append HB4.out
        generalize l ++ b4 = m at *
        have HM1 := Lib.hid hm1
        have HM2 := Lib.hid hm2
        obtain ⟨A5, c5, rfl, hc5, hr5, hn5⟩ := HI5.out.own.sl.look
        have HOf := Lib.hid (of_any (.slice A5 m.length c5) m w5 ⟨A5, c5, rfl, hc5, hr5, hn5⟩ (by omega))
        have HR5 := Lib.hid hr5
        have HN5 := Lib.hid (show A5 = none → m = [] from fun e => (hn5 e).2)
        have HC5 := Lib.hid hc5
        clear hr5 hn5 hc5 hm1 hm2
        go_wp2_with fail
        refine HOf.out.mono ?_
        rintro e w6 ⟨I, rfl, h1, h2, h3⟩
        have HIn := Lib.hid h1
        have HB6 := Lib.hid (HI5.out.to.trans (h3.mono HI5.out.to.size))
        have HR6 := Lib.hid (HR5.out.below h3)
        have hIlt := h1.lt
        have HIl := Lib.hid (show I < w6.heap.size from hIlt)
        have HIg := Lib.hid (show w.heap.size ≤ I from Nat.le_trans HI5.out.to.size h2)
        clear h1 h2 h3 hIlt HOf HI HI2 HI3 HI5 HS HBs HF HFb HB4 HL4 HR4 HN4 HO3 HSz
        go_wp2_with fail
        go_loopw [13] (fun i wr => ∃ k : Nat, k ≤ 25 ∧ i = .int .i64 k ∧ Hid (Inv2 w I w6.heap.size wr)) (fun i _ => 25 - (intOf i).toNat)
        case atStart => exact ⟨0, by omega, rfl, ⟨m, 0, A5, c5, by have := HM1.out; omega, HM2.out, HIn.out.below (by go_grown), Blk.new w6 _ _, ⟨A5, c5, rfl, HC5.out, HR6.out.alloc _, HN5.out⟩, HB6.out.alloc HB6.out.size _⟩⟩
        case round =>
          obtain ⟨k2, hk2, rfl, HI⟩ := hrel
          by_cases hlt : k2 < 25
          · have b1 : decide ((k2 : Int) < 25) = true := by simp; omega
            obtain ⟨l2, e2, A6, c6, hl2, hbl2, hIn, hBk, hRI, hBw⟩ := HI.out
            have HGet := Lib.hid (rget_any (.agg #[.slice A6 l2.length c6, .int .i64 e2]) l2 e2 wr hRI (by omega) hbl2)
            have HCG := fun W h => Lib.hid (cget_any I l2 e2 W h (by omega) hbl2)
            have HL3 := Lib.hid (nL_le l2 e2 11)
            have HB3 := Lib.hid (nL_bytes l2 e2 11 hbl2)
            have HL2 := Lib.hid hl2
            have i0 := hBk.cell (i := 0) (v := .slice A6 l2.length c6) rfl
            have i1 := hBk.cell (i := 1) (v := .int .i64 e2) rfl
            have HIn2 := Lib.hid hIn
            have HBk := Lib.hid hBk
            have HBw := Lib.hid hBw
            clear HI hl2 hbl2 hIn hBk hRI hBw
            generalize nL l2 e2 11 = l3 at *
            generalize nE l2 e2 11 = e3 at *
            generalize gE l2 e2 = ge at *
            generalize gC l2 e2 = gc at *
            obtain ⟨K, H, E, N⟩ := gc
            unfold C.v at HGet HCG
            simp only at HGet HCG
            have hgb := chk_bne ge
            go_wp2_with fail
            refine HGet.out.mono ?_
            rintro e w8 ⟨u2, rfl, g1, g2⟩
            obtain ⟨A7, c7, rfl, hc7, hr7, hn7⟩ := g1
            have j1 := ((HBk.out.below g2 HBk.out.lt).alloc (.cells #[.slice A7 l3.length c7, .int .i64 e3] 72)).alloc (.cells #[.int .i64 K, .int .i64 H, .int .u64 E, .int .i64 N] 24)
            have j2 := (Blk.new w8 #[.slice A7 l3.length c7, .int .i64 e3] 72).alloc (.cells #[.int .i64 K, .int .i64 H, .int .u64 E, .int .i64 N] 24)
            have j3 := Blk.new (w8.alloc (.cells #[.slice A7 l3.length c7, .int .i64 e3] 72)) #[.int .i64 K, .int .i64 H, .int .u64 E, .int .i64 N] 24
            rw [World.size_alloc] at j3
            have j4 := (HIn2.out.below g2).below (show Below w8.heap.size w8 ((w8.alloc (.cells #[.slice A7 l3.length c7, .int .i64 e3] 72)).alloc (.cells #[.int .i64 K, .int .i64 H, .int .u64 E, .int .i64 N] 24)) by go_grown)
            have j5 := (hr7.alloc (.cells #[.slice A7 l3.length c7, .int .i64 e3] 72)).alloc (.cells #[.int .i64 K, .int .i64 H, .int .u64 E, .int .i64 N] 24)
            have hb8 := HBw.out.trans (g2.mono HBw.out.size)
            have j6 := (hb8.alloc hb8.size (.cells #[.slice A7 l3.length c7, .int .i64 e3] 72)).alloc (by rw [World.size_alloc]; have := hb8.size; omega) (.cells #[.int .i64 K, .int .i64 H, .int .u64 E, .int .i64 N] 24)
            have hw68 : w6.heap.size < w8.heap.size := Nat.lt_of_lt_of_le HBk.out.lt g2.size
            have o0 := j1.cell (i := 0) (v := .slice A6 l2.length c6) rfl
            have o1 := j1.cell (i := 1) (v := .int .i64 e2) rfl
            have z0 := j1.free 0
            have z1 := j1.free 1
            have y0 := j2.cell (i := 0) (v := .slice A7 l3.length c7) rfl
            have y1 := j2.cell (i := 1) (v := .int .i64 e3) rfl
            have J1 := Lib.hid j1
            have J3 := Lib.hid j3
            have J4 := Lib.hid j4
            have J5 := Lib.hid j5
            have J6 := Lib.hid j6
            have HC7 := Lib.hid hc7
            have HN7 := Lib.hid hn7
            have HW68 := Lib.hid hw68
            clear g2 hr7 hn7 hc7 j1 j2 j3 j4 j5 j6 hb8 hw68 i0 i1 HGet
            go_wp2_with fail
            have hBI : w6.heap.size ≠ I := by have := HIl.out; omega
            have k1 := setR_in (s' := .slice A7 l3.length c7) J4.out J1.out (fun x h => by cases h) (fun x h => by cases h) hBI e3
            have k2' := setR_blk J1.out (.slice A7 l3.length c7) e3
            have k3 := setR_other J3.out (B := w6.heap.size) (by have := HW68.out; omega) (.slice A7 l3.length c7) e3
            have k4 := setR_rd (s' := .slice A7 l3.length c7) J5.out J1.out (fun x h => by cases h) (fun x h => by cases h) e3
            have k5 := setR_below J6.out (B := w6.heap.size) HB6.out.size (.slice A7 l3.length c7) e3
            unfold setR at k1 k2' k3 k4 k5
            refine (HCG _ k1).out.mono ?_
            rintro e w10 ⟨rfl, g1, g2⟩
            have m1 := g1.below (show Below w10.heap.size w10 (w10.alloc (.cells #[.int .i64 K, .int .i64 H, .int .u64 E, .int .i64 N] 24)) by go_grown)
            have m2 := (k2'.grown g2 (by simp; exact hBI)).alloc (.cells #[.int .i64 K, .int .i64 H, .int .u64 E, .int .i64 N] 24)
            have m3 := (k3.grown g2 (by simp; have := HIl.out; have := HW68.out; omega)).alloc (.cells #[.int .i64 K, .int .i64 H, .int .u64 E, .int .i64 N] 24)
            have m4 := (rd_grown k4 k1 g2).alloc (.cells #[.int .i64 K, .int .i64 H, .int .u64 E, .int .i64 N] 24)
            have m5 := k5.grown g2 k5.size (fun k e => by have e2 : I = k := Option.some.inj e; have := HIg.out; omega)
            have m6 := m5.alloc m5.size (.cells #[.int .i64 K, .int .i64 H, .int .u64 E, .int .i64 N] 24)
            have m7 := Blk.new w10 #[.int .i64 K, .int .i64 H, .int .u64 E, .int .i64 N] 24
            have n0 := m7.cell (i := 0) (v := .int .i64 K) rfl
            have n1 := m7.cell (i := 1) (v := .int .i64 H) rfl
            have n2 := m7.cell (i := 2) (v := .int .u64 E) rfl
            have n3 := m7.cell (i := 3) (v := .int .i64 N) rfl
            have p0 := m3.cell (i := 0) (v := .int .i64 K) rfl
            have p1 := m3.cell (i := 1) (v := .int .i64 H) rfl
            have p2 := m3.cell (i := 2) (v := .int .u64 E) rfl
            have p3 := m3.cell (i := 3) (v := .int .i64 N) rfl
            have q0 := m2.cell (i := 0) (v := .slice A7 l3.length c7) rfl
            have M1 := Lib.hid m1
            have M2 := Lib.hid m2
            have M4 := Lib.hid m4
            have M6 := Lib.hid m6
            clear k1 k2' k3 k4 k5 g1 g2 m1 m2 m3 m4 m5 m6 m7 hBI o0 o1 z0 z1 y0 y1 J1 J3 J4 J5 J6 HCG
            go_wp2_with fail
            have HLeft : Hid (∀ n, Calls Tryd.prog 53 #[.pointer (some ⟨I, 0, none⟩)] ((w10.alloc (.cells #[.int .i64 K, .int .i64 H, .int .u64 E, .int .i64 N] 24)).drewN n) fun e w' => e = .returned (.int .i64 l3.length) ∧ w' = (w10.alloc (.cells #[.int .i64 K, .int .i64 H, .int .u64 E, .int .i64 N] 24)).drewN n) := Lib.hid (fun n => by
              refine (left_any I l3 e3 _ (M1.out.below (Joins.below_draws _ _ _))).mono ?_
              rintro e w' ⟨rfl, rfl⟩
              exact ⟨rfl, rfl⟩)
            go_quiet ((go_at_call 53; exact Calls.quiet_of_same (HLeft.out _)))
            go_wp2_with fail
            go_roundw
            case rel => exact ⟨k2 + 1, by omega, by go_num, l3, e3, A7, c7, by have := HL3.out; have := HL2.out; omega, HB3.out, M1.out.below (Joins.below_draws _ _ _), M2.out.drewN _, ⟨A7, c7, rfl, HC7.out, M4.out.below (Joins.below_draws _ _ _), HN7.out⟩, M6.out.trans ((Joins.below_draws _ _ _).mono M6.out.size)⟩
            case measure => simp [intOf]; omega
          · have b1 : decide ((k2 : Int) < 25) = false := by simp; omega
            have HB9 : Hid (Below w.heap.size w wr) := by
              obtain ⟨_, _, _, _, _, _, _, _, _, h⟩ := HI.out
              exact Lib.hid h
            have HNil := Lib.hid (cget_nil wr)
            clear HI
            unfold C.v C.zero at HNil
            simp only at HNil
            go_wp2_with fail
            refine HNil.out.mono ?_
            rintro e w7 ⟨rfl, h1⟩
            have HB10 := Lib.hid (HB9.out.trans (h1.mono HB9.out.size))
            have HB11 := Lib.hid (HB10.out.alloc HB10.out.size (.cells #[.int .i64 0, .int .i64 0, .int .u64 0, .int .i64 0] 24))
            have HAw := Lib.hid (R.catenarylaw08_awake.calls true _ haw (HEnv.out.below HB11.out))
            clear h1
            go_wp2_with fail
            refine HAw.out.mono ?_
            rintro e w8 ⟨rfl, h2⟩
            go_wp2_with fail
            go_ret
            exact ⟨rfl, HB11.out.trans (h2.mono HB11.out.size)⟩)
end Go.Proofs.YtlpkandfmbnlnaaDoor.Gets
