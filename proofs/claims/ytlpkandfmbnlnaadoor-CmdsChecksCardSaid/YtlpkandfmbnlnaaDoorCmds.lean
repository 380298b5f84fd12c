/- Commands as bytes: cmds.Put, Get, Encode, Decode, and the chapter's Bytes, Get, Decode. -/
import Derived.Test.YtlpkandfmbnlnaaDoorCheck
import Derived.Test.YtlpkandfmbnlnaaDoorRef
set_option linter.unusedVariables false
set_option linter.unusedSimpArgs false
set_option maxRecDepth 100000
namespace Go.Proofs.YtlpkandfmbnlnaaDoor.Cmd
open Go Go.RowKit Go.Proofs.YtlpkandfmbnlnaaDoor.Mem Go.Proofs.YtlpkandfmbnlnaaDoor.Num Go.Proofs.YtlpkandfmbnlnaaDoor.Fix Go.Proofs.YtlpkandfmbnlnaaDoor.Ref

/-- A command's bytes. -/
def cb (c : C) : List Int := be 1 c.kind.toNat ++ be 1 c.chain.toNat ++ be 8 c.ep.toNat ++ be 1 c.node.toNat
def encB (c : C) : List Int := if chk c = 0 then cb c else []
/-- The command that eleven bytes are. -/
def ofB (b : List Int) : C := ⟨b.getD 0 0, b.getD 1 0, num ((b.drop 2).take 8), b.getD 10 0⟩
/-- What Get gives. -/
def gC (l : List Int) (e : Int) : C := if nE l e 11 = 0 ∧ chk (ofB (l.take 11)) = 0 then ofB (l.take 11) else C.zero
def gE (l : List Int) (e : Int) : Int := if nE l e 11 ≠ 0 then nE l e 11 else if chk (ofB (l.take 11)) ≠ 0 then 4 else 0
/-- What Decode gives. -/
def dC (l : List Int) : C := if gE l 0 = 0 ∧ l.length = 11 then gC l 0 else C.zero
def dE (l : List Int) : Int := if gE l 0 ≠ 0 then gE l 0 else if l.length = 11 then 0 else 4

theorem chk_ok (c : C) (h : chk c = 0) (he : 0 ≤ c.ep) : 0 ≤ c.kind ∧ c.kind ≤ 4 ∧ 0 ≤ c.chain ∧ c.chain ≤ 3 ∧ 0 ≤ c.node ∧ c.node ≤ 24 := by
  unfold chk at h
  split at h
  · cases h
  split at h
  · split at h
    · omega
    · cases h
  · split at h
    · cases h
    · omega
theorem cb_len (c : C) : (cb c).length = 11 := by simp [cb, be_len]

/-- An Out between puts: what has turned since w0; a block aside. -/
def PutSt (w0 W : World) (base L : Nat) (own : Option Nat) (l : List Int) (most : Int) (B : Nat) (cs : Array Value) (t : TypeId) : Prop :=
  (∃ own', Out W base L own' l most 0 ∧ (own' = own ∨ ∃ b, own' = some b ∧ w0.heap.size ≤ b)) ∧ Chg w0 W (Outs L own) ∧ Blk W B cs t ∧ B < w0.heap.size ∧ B ≠ L ∧ own ≠ some B ∧ base ≤ w0.heap.size

theorem put_step {w0 W : World} {base L : Nat} {own : Option Nat} {l : List Int} {most : Int} {B : Nat} {cs : Array Value} {t : TypeId} (h : PutSt w0 W base L own l most B cs t) (n k : Nat) (hn : n < 18446744073709551616) (hk1 : 1 ≤ k) (hk : k ≤ 8) (hf : n < 256 ^ k)
    (room : (l.length : Int) + k ≤ most) (hm : most ≤ 1000000) :
    Calls Tryd.prog 79 #[.pointer (some ⟨L, 0, none⟩), .int .u64 n, .int .i64 k] W fun e w' => e = .returned (.tuple #[]) ∧ PutSt w0 w' base L own (l ++ be k n) most B cs t := by
  obtain ⟨⟨own', hO, hat⟩, hC, hB, h1, h2, h3, h4⟩ := h
  refine (put_any L base own' l most 0 n k W hO hn hk1 hk (by omega) (by omega) hm (Nat.le_trans h4 hC.size)).mono ?_
  rintro e w' ⟨rfl, ⟨own2, hO2, hat2⟩, hC2⟩
  have hs : putN l most 0 n k = (l ++ be k n, 0) := by
    unfold putN putS
    rw [if_pos hf, if_neg (by simp), if_neg (by rw [be_len]; omega)]
  rw [hs] at hO2
  refine ⟨rfl, ⟨own2, hO2, ?_⟩, hC.trans hC2 ?_, hB.touch hC2 ?_, h1, h2, h3, h4⟩
  · rcases hat2 with rfl | ⟨b, e, hb⟩
    · exact hat
    · exact .inr ⟨b, e, Nat.le_trans hC.size hb⟩
  · rintro i (rfl | e)
    · exact .inl (.inl rfl)
    · rcases hat with rfl | ⟨b, e2, hb⟩
      · exact .inl (.inr e)
      · rw [e2] at e
        have := Option.some.inj e
        exact .inr (by omega)
  · rintro (e | e)
    · exact h2 e
    · rcases hat with rfl | ⟨b, e2, hb⟩
      · exact h3 e
      · rw [e2] at e
        have := Option.some.inj e
        omega
theorem PutSt.cell {w0 W : World} {base L : Nat} {own : Option Nat} {l : List Int} {most : Int} {B : Nat} {cs : Array Value} {t : TypeId} (h : PutSt w0 W base L own l most B cs t) {i : Nat} {v : Value} (hi : cs[i]? = some v) : W.cell? ⟨B, i, none⟩ = some v := h.2.2.1.cell hi

set_option maxHeartbeats 2000000 in
/-- cmds.Put. -/
theorem cput_any (L base : Nat) (own : Option Nat) (l : List Int) (most : Int) (c : C) (w : World) (hO : Out w base L own l most 0) (hown : ∀ b, own = some b → b < w.heap.size) (room : (l.length : Int) + 11 ≤ most) (hm : most ≤ 1000000) (he0 : 0 ≤ c.ep) (he : c.ep < 18446744073709551616) (hb : base ≤ w.heap.size) :
    Calls Tryd.prog 48 #[.pointer (some ⟨L, 0, none⟩), c.v] w fun e w' => e = .returned (.int .i64 (chk c)) ∧
      (∃ own', Out w' base L own' (l ++ encB c) most 0 ∧ (own' = own ∨ ∃ b, own' = some b ∧ w.heap.size ≤ b)) ∧ Chg w w' (Outs L own) := by
  have HK := fun W => Lib.hid (check_any c W)
  by_cases h : chk c = 0
  · obtain ⟨h1, h2, h3, h4, h5, h6⟩ := chk_ok c h he0
    obtain ⟨K, H, E, N⟩ := c
    simp only at h1 h2 h3 h4 h5 h6 he0 he
    obtain ⟨K, rfl⟩ : ∃ k : Nat, K = k := ⟨K.toNat, by omega⟩
    obtain ⟨H, rfl⟩ : ∃ k : Nat, H = k := ⟨H.toNat, by omega⟩
    obtain ⟨E, rfl⟩ : ∃ k : Nat, E = k := ⟨E.toNat, by omega⟩
    obtain ⟨N, rfl⟩ : ∃ k : Nat, N = k := ⟨N.toNat, by omega⟩
    have hs : encB ⟨K, H, E, N⟩ = be 1 K ++ be 1 H ++ be 8 E ++ be 1 N := by unfold encB; rw [if_pos h]; simp [cb]
    have wk : IntKind.u64.wrap (K : Int) = K := by rw [w64]; omega
    have wh : IntKind.u64.wrap (H : Int) = H := by rw [w64]; omega
    have wn : IntKind.u64.wrap (N : Int) = N := by rw [w64]; omega
    have HS := Lib.hid hs
    rw [h] at HK ⊢
    clear h hs
    unfold C.v C.cells at HK
    unfold C.v
    simp only at HK ⊢
    have hL : L < w.heap.size := by
      obtain ⟨v, hB, _⟩ := hO.blk
      exact hB.lt
    have hP0 : PutSt ((w.alloc (.cells #[.int .i64 K, .int .i64 H, .int .u64 E, .int .i64 N] 24)).alloc (.cells #[.int .i64 K, .int .i64 H, .int .u64 E, .int .i64 N] 24)) ((w.alloc (.cells #[.int .i64 K, .int .i64 H, .int .u64 E, .int .i64 N] 24)).alloc (.cells #[.int .i64 K, .int .i64 H, .int .u64 E, .int .i64 N] 24)) base L own l most w.heap.size #[.int .i64 K, .int .i64 H, .int .u64 E, .int .i64 N] 24 :=
      ⟨⟨own, hO.below (by go_grown), .inl rfl⟩, Chg.refl _ _, (Blk.new w _ _).alloc _, by simp; omega, by omega, fun e => by have := hown _ e; omega, by simp; omega⟩
    have HP := Lib.hid hP0
    clear hP0 hO
    go_enter Tryd.func48, Tryd.ntmps48
    go_wp2_with fail
    refine (HK _).out.mono ?_
    rintro e w' ⟨rfl, rfl⟩
    go_wp2_with fail
    refine (put_step HP.out K 1 (by omega) (by decide) (by decide) (by omega) (by simp [be_len]; omega) hm).mono ?_
    rintro e w1 ⟨rfl, hp⟩
    have HP1 := Lib.hid hp
    have b00 := hp.cell (i := 0) (v := .int .i64 K) rfl
    have b01 := hp.cell (i := 1) (v := .int .i64 H) rfl
    have b02 := hp.cell (i := 2) (v := .int .u64 E) rfl
    have b03 := hp.cell (i := 3) (v := .int .i64 N) rfl
    clear hp
    go_wp2_with fail
    refine (put_step HP1.out H 1 (by omega) (by decide) (by decide) (by omega) (by simp [be_len]; omega) hm).mono ?_
    rintro e w2 ⟨rfl, hp⟩
    have HP2 := Lib.hid hp
    have b10 := hp.cell (i := 0) (v := .int .i64 K) rfl
    have b11 := hp.cell (i := 1) (v := .int .i64 H) rfl
    have b12 := hp.cell (i := 2) (v := .int .u64 E) rfl
    have b13 := hp.cell (i := 3) (v := .int .i64 N) rfl
    clear hp
    go_wp2_with fail
    refine (put_step HP2.out E 8 (by omega) (by decide) (by decide) (by omega) (by simp [be_len]; omega) hm).mono ?_
    rintro e w3 ⟨rfl, hp⟩
    have HP3 := Lib.hid hp
    have b20 := hp.cell (i := 0) (v := .int .i64 K) rfl
    have b21 := hp.cell (i := 1) (v := .int .i64 H) rfl
    have b22 := hp.cell (i := 2) (v := .int .u64 E) rfl
    have b23 := hp.cell (i := 3) (v := .int .i64 N) rfl
    clear hp
    go_wp2_with fail
    refine (put_step HP3.out N 1 (by omega) (by decide) (by decide) (by omega) (by simp [be_len]; omega) hm).mono ?_
    rintro e w4 ⟨rfl, hp⟩
    have HP4 := Lib.hid hp
    have b30 := hp.cell (i := 0) (v := .int .i64 K) rfl
    have b31 := hp.cell (i := 1) (v := .int .i64 H) rfl
    have b32 := hp.cell (i := 2) (v := .int .u64 E) rfl
    have b33 := hp.cell (i := 3) (v := .int .i64 N) rfl
    clear hp
    go_wp2_with fail
    go_ret
    obtain ⟨⟨own', h1, h2⟩, h3, _⟩ := HP4.out
    rw [HS.out]
    refine ⟨rfl, ⟨own', by simpa using h1, ?_⟩, (Chg.of_below (show Below w.heap.size w ((w.alloc (.cells #[.int .i64 K, .int .i64 H, .int .u64 E, .int .i64 N] 24)).alloc (.cells #[.int .i64 K, .int .i64 H, .int .u64 E, .int .i64 N] 24)) by go_grown) _).trans h3 (fun i e => .inl e)⟩
    rcases h2 with h2 | ⟨b, e, hb2⟩
    · exact .inl h2
    · exact .inr ⟨b, e, by simp at hb2; omega⟩
  · have hs : encB c = [] := if_neg h
    have hb1 : (chk c != 0) = true := by simp [h]
    rw [hs, List.append_nil]
    have HO := Lib.hid hO
    generalize chk c = x at *
    obtain ⟨K, H, E, N⟩ := c
    unfold C.v C.cells at HK
    unfold C.v
    simp only at HK ⊢
    clear hO hs h
    go_enter Tryd.func48, Tryd.ntmps48
    go_wp2_with fail
    refine (HK _).out.mono ?_
    rintro e w' ⟨rfl, rfl⟩
    go_wp2_with fail
    go_ret
    exact ⟨rfl, ⟨own, HO.out.below (by go_grown), .inl rfl⟩, Chg.of_below (by go_grown) _⟩

end Go.Proofs.YtlpkandfmbnlnaaDoor.Cmd
