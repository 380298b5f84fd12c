/- Commands as bytes: cmds.Put, Get, Encode, Decode, and the chapter's Bytes, Get, Decode. Commands as bytes: cmds.Encode, Get, Decode, and the chapter's Bytes, Get, Decode. Commands out of bytes: cmds.Get, Decode, and the chapter's. -/
import Derived.Test.YtlpkandfmbnlnaaDoorCheck
import Derived.Test.YtlpkandfmbnlnaaDoorRef
import Derived.Deep.RegionWith
set_option linter.unusedVariables false
set_option linter.unusedSimpArgs false
set_option maxRecDepth 100000
namespace Go.Proofs.YtlpkandfmbnlnaaDoor.Cmd
open Go Go.RowKit Go.Proofs.YtlpkandfmbnlnaaDoor.Mem Go.Proofs.YtlpkandfmbnlnaaDoor.Num Go.Proofs.YtlpkandfmbnlnaaDoor.Fix Go.Proofs.YtlpkandfmbnlnaaDoor.Ref

/-- A command's bytes. -/
def cb (c : C) : List Int := be 1 c.kind.toNat ++ be 1 c.chain.toNat ++ be 8 c.ep.toNat ++ be 1 c.node.toNat
def encB (c : C) : List Int := if chk c = 0 then cb c else []
/-- The command that eleven bytes are. -/
def ofB (b : List Int) : C := ⟨b.getD 0 0, b.getD 1 0, num ((b.drop 2).take 8), b.getD 10 0⟩
/-- What Get gives. -/
def gC (l : List Int) (e : Int) : C := if nE l e 11 = 0 ∧ chk (ofB (l.take 11)) = 0 then ofB (l.take 11) else C.zero
def gE (l : List Int) (e : Int) : Int := if nE l e 11 ≠ 0 then nE l e 11 else if chk (ofB (l.take 11)) ≠ 0 then 4 else 0
/-- What Decode gives. -/
def dC (l : List Int) : C := if gE l 0 = 0 ∧ l.length = 11 then gC l 0 else C.zero
def dE (l : List Int) : Int := if gE l 0 ≠ 0 then gE l 0 else if l.length = 11 then 0 else 4

theorem chk_ok (c : C) (h : chk c = 0) (he : 0 ≤ c.ep) : 0 ≤ c.kind ∧ c.kind ≤ 4 ∧ 0 ≤ c.chain ∧ c.chain ≤ 3 ∧ 0 ≤ c.node ∧ c.node ≤ 24 := by
  unfold chk at h
  split at h
  · cases h
  split at h
  · split at h
    · omega
    · cases h
  · split at h
    · cases h
    · omega
theorem cb_len (c : C) : (cb c).length = 11 := by simp [cb, be_len]

/-- An Out between puts: what has turned since w0; a block aside. -/
def PutSt (w0 W : World) (base L : Nat) (own : Option Nat) (l : List Int) (most : Int) (B : Nat) (cs : Array Value) (t : TypeId) : Prop :=
  (∃ own', Out W base L own' l most 0 ∧ (own' = own ∨ ∃ b, own' = some b ∧ w0.heap.size ≤ b)) ∧ Chg w0 W (Outs L own) ∧ Blk W B cs t ∧ B < w0.heap.size ∧ B ≠ L ∧ own ≠ some B ∧ base ≤ w0.heap.size

theorem put_step {w0 W : World} {base L : Nat} {own : Option Nat} {l : List Int} {most : Int} {B : Nat} {cs : Array Value} {t : TypeId} (h : PutSt w0 W base L own l most B cs t) (n k : Nat) (hn : n < 18446744073709551616) (hk1 : 1 ≤ k) (hk : k ≤ 8) (hf : n < 256 ^ k)
    (room : (l.length : Int) + k ≤ most) (hm : most ≤ 1000000) :
    Calls Tryd.prog 79 #[.pointer (some ⟨L, 0, none⟩), .int .u64 n, .int .i64 k] W fun e w' => e = .returned (.tuple #[]) ∧ PutSt w0 w' base L own (l ++ be k n) most B cs t := by
  obtain ⟨⟨own', hO, hat⟩, hC, hB, h1, h2, h3, h4⟩ := h
  refine (put_any L base own' l most 0 n k W hO hn hk1 hk (by omega) (by omega) hm (Nat.le_trans h4 hC.size)).mono ?_
  rintro e w' ⟨rfl, ⟨own2, hO2, hat2⟩, hC2⟩
  have hs : putN l most 0 n k = (l ++ be k n, 0) := by
    unfold putN putS
    rw [if_pos hf, if_neg (by simp), if_neg (by rw [be_len]; omega)]
  rw [hs] at hO2
  refine ⟨rfl, ⟨own2, hO2, ?_⟩, hC.trans hC2 ?_, hB.touch hC2 ?_, h1, h2, h3, h4⟩
  · rcases hat2 with rfl | ⟨b, e, hb⟩
    · exact hat
    · exact .inr ⟨b, e, Nat.le_trans hC.size hb⟩
  · rintro i (rfl | e)
    · exact .inl (.inl rfl)
    · rcases hat with rfl | ⟨b, e2, hb⟩
      · exact .inl (.inr e)
      · rw [e2] at e
        have := Option.some.inj e
        exact .inr (by omega)
  · rintro (e | e)
    · exact h2 e
    · rcases hat with rfl | ⟨b, e2, hb⟩
      · exact h3 e
      · rw [e2] at e
        have := Option.some.inj e
        omega
theorem PutSt.cell {w0 W : World} {base L : Nat} {own : Option Nat} {l : List Int} {most : Int} {B : Nat} {cs : Array Value} {t : TypeId} (h : PutSt w0 W base L own l most B cs t) {i : Nat} {v : Value} (hi : cs[i]? = some v) : W.cell? ⟨B, i, none⟩ = some v := h.2.2.1.cell hi

set_option maxHeartbeats 2000000 in
/-- cmds.Put. -/
theorem cput_any (L base : Nat) (own : Option Nat) (l : List Int) (most : Int) (c : C) (w : World) (hO : Out w base L own l most 0) (hown : ∀ b, own = some b → b < w.heap.size) (room : (l.length : Int) + 11 ≤ most) (hm : most ≤ 1000000) (he0 : 0 ≤ c.ep) (he : c.ep < 18446744073709551616) (hb : base ≤ w.heap.size) :
    Calls Tryd.prog 48 #[.pointer (some ⟨L, 0, none⟩), c.v] w fun e w' => e = .returned (.int .i64 (chk c)) ∧
      (∃ own', Out w' base L own' (l ++ encB c) most 0 ∧ (own' = own ∨ ∃ b, own' = some b ∧ w.heap.size ≤ b)) ∧ Chg w w' (Outs L own) := by
  have HK := fun W => Lib.hid (check_any c W)
  by_cases h : chk c = 0
  · obtain ⟨h1, h2, h3, h4, h5, h6⟩ := chk_ok c h he0
    obtain ⟨K, H, E, N⟩ := c
    simp only at h1 h2 h3 h4 h5 h6 he0 he
    obtain ⟨K, rfl⟩ : ∃ k : Nat, K = k := ⟨K.toNat, by omega⟩
    obtain ⟨H, rfl⟩ : ∃ k : Nat, H = k := ⟨H.toNat, by omega⟩
    obtain ⟨E, rfl⟩ : ∃ k : Nat, E = k := ⟨E.toNat, by omega⟩
    obtain ⟨N, rfl⟩ : ∃ k : Nat, N = k := ⟨N.toNat, by omega⟩
    have hs : encB ⟨K, H, E, N⟩ = be 1 K ++ be 1 H ++ be 8 E ++ be 1 N := by unfold encB; rw [if_pos h]; simp [cb]
    have wk : IntKind.u64.wrap (K : Int) = K := by rw [w64]; omega
    have wh : IntKind.u64.wrap (H : Int) = H := by rw [w64]; omega
    have wn : IntKind.u64.wrap (N : Int) = N := by rw [w64]; omega
    have HS := Lib.hid hs
    rw [h] at HK ⊢
    clear h hs
    unfold C.v C.cells at HK
    unfold C.v
    simp only at HK ⊢
    have hL : L < w.heap.size := by
      obtain ⟨v, hB, _⟩ := hO.blk
      exact hB.lt
    have hP0 : PutSt ((w.alloc (.cells #[.int .i64 K, .int .i64 H, .int .u64 E, .int .i64 N] 24)).alloc (.cells #[.int .i64 K, .int .i64 H, .int .u64 E, .int .i64 N] 24)) ((w.alloc (.cells #[.int .i64 K, .int .i64 H, .int .u64 E, .int .i64 N] 24)).alloc (.cells #[.int .i64 K, .int .i64 H, .int .u64 E, .int .i64 N] 24)) base L own l most w.heap.size #[.int .i64 K, .int .i64 H, .int .u64 E, .int .i64 N] 24 :=
      ⟨⟨own, hO.below (by go_grown), .inl rfl⟩, Chg.refl _ _, (Blk.new w _ _).alloc _, by simp; omega, by omega, fun e => by have := hown _ e; omega, by simp; omega⟩
    have HP := Lib.hid hP0
    clear hP0 hO
    go_enter Tryd.func48, Tryd.ntmps48
    go_wp2_with fail
    refine (HK _).out.mono ?_
    rintro e w' ⟨rfl, rfl⟩
    go_wp2_with fail
    refine (put_step HP.out K 1 (by omega) (by decide) (by decide) (by omega) (by simp [be_len]; omega) hm).mono ?_
    rintro e w1 ⟨rfl, hp⟩
    have HP1 := Lib.hid hp
    have b00 := hp.cell (i := 0) (v := .int .i64 K) rfl
    have b01 := hp.cell (i := 1) (v := .int .i64 H) rfl
    have b02 := hp.cell (i := 2) (v := .int .u64 E) rfl
    have b03 := hp.cell (i := 3) (v := .int .i64 N) rfl
    clear hp
    go_wp2_with fail
    refine (put_step HP1.out H 1 (by omega) (by decide) (by decide) (by omega) (by simp [be_len]; omega) hm).mono ?_
    rintro e w2 ⟨rfl, hp⟩
    have HP2 := Lib.hid hp
    have b10 := hp.cell (i := 0) (v := .int .i64 K) rfl
    have b11 := hp.cell (i := 1) (v := .int .i64 H) rfl
    have b12 := hp.cell (i := 2) (v := .int .u64 E) rfl
    have b13 := hp.cell (i := 3) (v := .int .i64 N) rfl
    clear hp
    go_wp2_with fail
    refine (put_step HP2.out E 8 (by omega) (by decide) (by decide) (by omega) (by simp [be_len]; omega) hm).mono ?_
    rintro e w3 ⟨rfl, hp⟩
    have HP3 := Lib.hid hp
    have b20 := hp.cell (i := 0) (v := .int .i64 K) rfl
    have b21 := hp.cell (i := 1) (v := .int .i64 H) rfl
    have b22 := hp.cell (i := 2) (v := .int .u64 E) rfl
    have b23 := hp.cell (i := 3) (v := .int .i64 N) rfl
    clear hp
    go_wp2_with fail
    refine (put_step HP3.out N 1 (by omega) (by decide) (by decide) (by omega) (by simp [be_len]; omega) hm).mono ?_
    rintro e w4 ⟨rfl, hp⟩
    have HP4 := Lib.hid hp
    have b30 := hp.cell (i := 0) (v := .int .i64 K) rfl
    have b31 := hp.cell (i := 1) (v := .int .i64 H) rfl
    have b32 := hp.cell (i := 2) (v := .int .u64 E) rfl
    have b33 := hp.cell (i := 3) (v := .int .i64 N) rfl
    clear hp
    go_wp2_with fail
    go_ret
    obtain ⟨⟨own', h1, h2⟩, h3, _⟩ := HP4.out
    rw [HS.out]
    refine ⟨rfl, ⟨own', by simpa using h1, ?_⟩, (Chg.of_below (show Below w.heap.size w ((w.alloc (.cells #[.int .i64 K, .int .i64 H, .int .u64 E, .int .i64 N] 24)).alloc (.cells #[.int .i64 K, .int .i64 H, .int .u64 E, .int .i64 N] 24)) by go_grown) _).trans h3 (fun i e => .inl e)⟩
    rcases h2 with h2 | ⟨b, e, hb2⟩
    · exact .inl h2
    · exact .inr ⟨b, e, by simp at hb2; omega⟩
  · have hs : encB c = [] := if_neg h
    have hb1 : (chk c != 0) = true := by simp [h]
    rw [hs, List.append_nil]
    have HO := Lib.hid hO
    generalize chk c = x at *
    obtain ⟨K, H, E, N⟩ := c
    unfold C.v C.cells at HK
    unfold C.v
    simp only at HK ⊢
    clear hO hs h
    go_enter Tryd.func48, Tryd.ntmps48
    go_wp2_with fail
    refine (HK _).out.mono ?_
    rintro e w' ⟨rfl, rfl⟩
    go_wp2_with fail
    go_ret
    exact ⟨rfl, ⟨own, HO.out.below (by go_grown), .inl rfl⟩, Chg.of_below (by go_grown) _⟩

end Go.Proofs.YtlpkandfmbnlnaaDoor.Cmd

namespace Go.Proofs.YtlpkandfmbnlnaaDoor.Cmd
open Go Go.RowKit Go.Proofs.YtlpkandfmbnlnaaDoor.Mem Go.Proofs.YtlpkandfmbnlnaaDoor.Num Go.Proofs.YtlpkandfmbnlnaaDoor.Fix Go.Proofs.YtlpkandfmbnlnaaDoor.Ref

set_option maxHeartbeats 1000000 in
/-- cmds.Encode. -/
theorem encode_any (c : C) (w : World) (he0 : 0 ≤ c.ep) (he : c.ep < 18446744073709551616) :
    Calls Tryd.prog 10 #[c.v] w fun e w' => ∃ u, e = .returned (.tuple #[u, .int .i64 (chk c)]) ∧ Own w' w.heap.size 5 .u8 u (encB c) ∧ Below w.heap.size w w' := by
  have HN := fun W => Lib.hid (new_any 11 W (by decide))
  have HP := fun L base W hO hown hb => Lib.hid (cput_any L base none [] 11 c W hO hown (by simp) (by decide) he0 he hb)
  have HE : ∀ (n : Nat), n = (encB c).length → Hid (n ≤ 1000000) := fun n e => Lib.hid (by rw [e]; unfold encB; split <;> simp [cb_len])
  have HZ := Lib.hid (show chk c ≠ 0 → encB c = [] from fun h => if_neg h)
  have hlen : (encB c).length ≤ 1000000 := (HE _ rfl).out
  generalize encB c = bs at *
  generalize chk c = x at *
  obtain ⟨K, H, E, N⟩ := c
  unfold C.v at HP ⊢
  simp only at HP ⊢
  have hO0 : Out ((w.alloc (.cells #[.int .i64 K, .int .i64 H, .int .u64 E, .int .i64 N] 24)).alloc (.cells #[.slice none 0 0, .int .i64 11, .int .i64 0] 106)) w.heap.size (w.heap.size + 1) none [] 11 0 := by
    have hk := Blk.new (w.alloc (.cells #[.int .i64 K, .int .i64 H, .int .u64 E, .int .i64 N] 24)) #[.slice none 0 0, .int .i64 11, .int .i64 0] 106
    rw [World.size_alloc] at hk
    exact ⟨_, hk, Own.nil _ _ _ _, rfl, by omega⟩
  have HPP := HP (w.heap.size + 1) w.heap.size _ hO0 (fun b e => by cases e) (by simp; omega)
  have hwb : Below w.heap.size w ((w.alloc (.cells #[.int .i64 K, .int .i64 H, .int .u64 E, .int .i64 N] 24)).alloc (.cells #[.slice none 0 0, .int .i64 11, .int .i64 0] 106)) := by go_grown
  have HWB := Lib.hid hwb
  clear HP hO0 he0 he hwb
  by_cases hx : x = 0
  · subst hx
    go_enter Tryd.func10, Tryd.ntmps10
    go_wp2_with fail
    refine (HN _).out.mono ?_
    rintro e w' ⟨rfl, rfl⟩
    go_wp2_with fail
    refine HPP.out.mono ?_
    rintro e w2 ⟨rfl, ⟨own', h1, h2⟩, h3⟩
    have hb2 : Below w.heap.size w w2 := HWB.out.trans (h3.below HWB.out.size (by rintro i (rfl | e); omega; cases e))
    have HD := Lib.hid (done_any (w.heap.size + 1) w.heap.size own' _ 11 0 w2 h1 (by simpa using hlen))
    have HB2 := Lib.hid hb2
    clear h1 h2 h3 hb2
    go_wp2_with fail
    refine HD.out.mono ?_
    rintro e w3 ⟨u, rfl, ho, hb3⟩
    have HO := Lib.hid ho
    have HB3 := Lib.hid hb3
    clear ho hb3
    go_wp2_with fail
    go_ret2
    exact ⟨_, rfl, (show Own _ _ _ _ _ bs by simpa [doneS] using HO.out).base HB2.out.size, HB2.out.trans (HB3.out.mono HB2.out.size)⟩
  · have hb1 : (x != 0) = true := by simp [hx]
    have HNil := Lib.hid (HZ.out hx)
    clear hx
    go_enter Tryd.func10, Tryd.ntmps10
    go_wp2_with fail
    refine (HN _).out.mono ?_
    rintro e w' ⟨rfl, rfl⟩
    go_wp2_with fail
    refine HPP.out.mono ?_
    rintro e w2 ⟨rfl, ⟨own', h1, h2⟩, h3⟩
    have hb2 : Below w.heap.size w w2 := HWB.out.trans (h3.below HWB.out.size (by rintro i (rfl | e); omega; cases e))
    have HB2 := Lib.hid hb2
    clear h1 h2 h3 hb2
    go_wp2_with fail
    go_ret2
    exact ⟨_, rfl, by rw [HNil.out]; exact Own.nil _ _ _ _, HB2.out⟩

set_option maxHeartbeats 1000000 in
/-- The chapter's Bytes. -/
theorem bytes_any (c : C) (w : World) (h : chk c = 0) (he0 : 0 ≤ c.ep) (he : c.ep < 18446744073709551616) :
    Calls Tryd.prog 19 #[c.v] w fun e w' => ∃ u, e = .returned u ∧ Own w' w.heap.size 5 .u8 u (cb c) ∧ Below w.heap.size w w' := by
  obtain ⟨h1, h2, h3, h4, h5, h6⟩ := chk_ok c h he0
  obtain ⟨K, H, E, N⟩ := c
  simp only at h1 h2 h3 h4 h5 h6 he0 he
  obtain ⟨K, rfl⟩ : ∃ k : Nat, K = k := ⟨K.toNat, by omega⟩
  obtain ⟨H, rfl⟩ : ∃ k : Nat, H = k := ⟨H.toNat, by omega⟩
  obtain ⟨E, rfl⟩ : ∃ k : Nat, E = k := ⟨E.toNat, by omega⟩
  obtain ⟨N, rfl⟩ : ∃ k : Nat, N = k := ⟨N.toNat, by omega⟩
  have hs : cb ⟨K, H, E, N⟩ = ([(K : Int), (H : Int)] ++ be 8 E) ++ [(N : Int)] := by
    have e1 : K % 256 = K := by omega
    have e2 : H % 256 = H := by omega
    have e3 : N % 256 = N := by omega
    simp [cb, be, e1, e2, e3]
  have wk : IntKind.u8.wrap (K : Int) = K := by rw [IntKind.wrap_u8]; omega
  have wh : IntKind.u8.wrap (H : Int) = H := by rw [IntKind.wrap_u8]; omega
  have wn : IntKind.u8.wrap (N : Int) = N := by rw [IntKind.wrap_u8]; omega
  have wk2 : (K : Int) % 256 = K := by omega
  have wh2 : (H : Int) % 256 = H := by omega
  have wn2 : (N : Int) % 256 = N := by omega
  rw [hs]
  unfold C.v
  simp only
  have HB := fun W => Lib.hid (big_any E 8 W (by omega) (by decide) (by decide) (by omega))
  have hL := own_lit (w.alloc (.cells #[.int .i64 K, .int .i64 H, .int .u64 E, .int .i64 N] 24)) w.heap.size 5 .u8 [(K : Int), (H : Int)] (by simp) (by simp)
  have HL := Lib.hid hL
  clear hL hs h
  go_enter Tryd.func19, Tryd.ntmps19
  go_wp2_with fail
  refine (HB _).out.mono ?_
  rintro e w1 ⟨u, rfl, ho, hb⟩
  have hl := HL.out
  rw [World.size_alloc] at hl
  have hk := (Blk.new w #[.int .i64 K, .int .i64 H, .int .u64 E, .int .i64 N] 24).alloc (.cells #[.int .u8 K, .int .u8 H] 5)
  have hk1 := hk.below hb (by simp; omega)
  have ho1 := Own.below hl hb
  have HBW := Lib.hid (show Below w.heap.size w w1 from (show Below w.heap.size w ((w.alloc (.cells #[.int .i64 K, .int .i64 H, .int .u64 E, .int .i64 N] 24)).alloc (.cells #[.int .u8 K, .int .u8 H] 5)) by go_grown).trans (hb.mono (by simp; omega)))
  obtain ⟨A, c, rfl, hc, hr, hn⟩ := ho.sl.look
  have c3 := hk1.cell (i := 3) (v := .int .i64 N) rfl
  have HK := Lib.hid hk1
  have HO := Lib.hid ho1
  have HR := Lib.hid hr
  have HN := Lib.hid hn
  clear hl hk hk1 ho1 ho hb hr hn
  go_wp2_with (first | (at_builtin; refine wp_app rfl _ _ _ rfl 5 .u8 1 Tryd.underlying27 info5 (by decide) w.heap.size (.slice (some ⟨w.heap.size + 1, 0, none⟩) 2 2) [(K : Int), (H : Int)] rfl HO.out A c (be 8 E) rfl HR.out HN.out (by simp [be_len]) HBW.out.size ?_; intro v2 w2 ho2 hg2 hat2; have c4 := (HK.out.grown hg2 (by simp [Value.ownBlock])).cell (i := 3) (v := .int .i64 N) rfl; have HO2 := Lib.hid ho2; have HG2 := Lib.hid hg2; clear ho2 hg2 hat2) | (at_builtin; refine wp_app rfl _ _ _ rfl 5 .u8 1 Tryd.underlying27 info5 (by decide) w.heap.size v2 ([(K : Int), (H : Int)] ++ be 8 E) rfl (HO2.out.alloc _) (some ⟨w2.heap.size, 0, none⟩) 1 [(N : Int)] rfl (own_lit w2 w2.heap.size 5 .u8 [(N : Int)] (Nat.le_refl _) (by simp)).sl.rd (fun e => by cases e) (by simp [be_len]) (by have := HBW.out.size; have := HG2.out.size; simp; omega) ?_; intro v3 w3 ho3 hg3 hat3; have HO3 := Lib.hid ho3; have HG3 := Lib.hid hg3; clear ho3 hg3 hat3))
  go_ret
  refine ⟨_, rfl, HO3.out, ?_⟩
  have b1 : Below w.heap.size w w2 := HBW.out.grown HG2.out HBW.out.size (fun k e => by have e2 : w.heap.size + 1 = k := Option.some.inj e; omega)
  exact (b1.alloc b1.size _).grown HG3.out (by have := b1.size; simp; omega) (fun k e => (HO2.out.lt k e).1)

end Go.Proofs.YtlpkandfmbnlnaaDoor.Cmd

namespace Go.Proofs.YtlpkandfmbnlnaaDoor.Cmd
open Go Go.RowKit Go.Proofs.YtlpkandfmbnlnaaDoor.Mem Go.Proofs.YtlpkandfmbnlnaaDoor.Num Go.Proofs.YtlpkandfmbnlnaaDoor.Fix Go.Proofs.YtlpkandfmbnlnaaDoor.Ref

theorem get_step (J : Nat) (b : List Int) (k : Nat) (w : World) (hI : In w J b 0) (hl : b.length ≤ 1000000) (hk1 : 1 ≤ k) (hk : k ≤ 8) (hkb : k ≤ b.length) (hb : Bytes b) :
    Calls Tryd.prog 85 #[.pointer (some ⟨J, 0, none⟩), .int .i64 k] w fun e w' => e = .returned (.int .u64 (num (b.take k))) ∧ In w' J (b.drop k) 0 ∧ w.grownBy w' (some J) := by
  have h := get_any J b 0 k w hI hl hk1 hk hb
  have hr := num_range (b.take k) (hb.take k)
  have e1 : uV b 0 k 18446744073709551615 = num (b.take k) := by unfold uV; rw [if_pos ⟨rfl, hkb, by omega⟩]
  have e2 : uL b 0 k 18446744073709551615 = b.drop k := by unfold uL; rw [if_neg (by simp), if_neg (by omega), if_neg (by omega)]
  have e3 : uE b 0 k 18446744073709551615 = 0 := by unfold uE; rw [if_neg (by simp), if_neg (by omega), if_neg (by omega)]
  rwa [e1, e2, e3] at h
theorem num_one (b : List Int) (j : Nat) (hb : Bytes b) (hj : j < b.length) : num ((b.drop j).take 1) = b.getD j 0 := by
  have h1 : (b.drop j).take 1 = [b.getD j 0] := by
    rw [List.drop_eq_getElem_cons hj, List.take_succ_cons, List.take_zero]
    simp [List.getD, hj]
  have h2 := hb.getD j
  rw [h1]
  simp only [num, List.foldl_cons, List.foldl_nil]
  omega

/-- A command's block, stored into. -/
def setC (w : World) (B : Nat) (c : C) : World := (((w.setCell ⟨B, 0, none⟩ (.int .i64 c.kind)).setCell ⟨B, 1, none⟩ (.int .i64 c.chain)).setCell ⟨B, 2, none⟩ (.int .u64 c.ep)).setCell ⟨B, 3, none⟩ (.int .i64 c.node)
theorem setC_blk {w : World} {B : Nat} {t : TypeId} {a b d e : Value} (h : Blk w B #[a, b, d, e] t) (c : C) : Blk (setC w B c) B #[.int .i64 c.kind, .int .i64 c.chain, .int .u64 c.ep, .int .i64 c.node] t :=
  (((h.set 0 (.int .i64 c.kind)).set 1 (.int .i64 c.chain)).set 2 (.int .u64 c.ep)).set 3 (.int .i64 c.node)
theorem no_u8 {K H E N : Int} : ∀ (i : Nat) (x : Int), (#[Value.int .i64 K, .int .i64 H, .int .u64 E, .int .i64 N] : Array Value)[i]? ≠ some (Value.int .u8 x) := by
  intro i x
  match i with
  | 0 => simp
  | 1 => simp
  | 2 => simp
  | 3 => simp
  | n + 4 => simp
theorem setC_in {w : World} {I B : Nat} {l : List Int} {err : Int} {t : TypeId} {K H E N : Int} (h : In w I l err) (hB : Blk w B #[.int .i64 K, .int .i64 H, .int .u64 E, .int .i64 N] t) (hBI : B ≠ I) (c : C) : In (setC w B c) I l err := by
  have b1 := hB.set 0 (.int .i64 c.kind)
  have b2 := b1.set 1 (.int .i64 c.chain)
  have b3 := b2.set 2 (.int .u64 c.ep)
  have i1 := h.set hB no_u8 hBI 0 (.int .i64 c.kind)
  have i2 := i1.set b1 no_u8 hBI 1 (.int .i64 c.chain)
  have i3 := i2.set b2 no_u8 hBI 2 (.int .u64 c.ep)
  exact i3.set b3 no_u8 hBI 3 (.int .i64 c.node)
theorem setC_grown {w W : World} {row : Option Nat} {B : Nat} (h : w.grownBy W row) (hB : w.heap.size ≤ B) (c : C) : w.grownBy (setC W B c) row :=
  grown_new (grown_new (grown_new (grown_new h (p := ⟨B, 0, none⟩) hB _) (p := ⟨B, 1, none⟩) hB _) (p := ⟨B, 2, none⟩) hB _) (p := ⟨B, 3, none⟩) hB _

set_option maxHeartbeats 2000000 in
/-- cmds.Get. -/
theorem cget_any (I : Nat) (l : List Int) (err : Int) (w : World) (hI : In w I l err) (hl : l.length ≤ 1000000) (hb : Bytes l) :
    Calls Tryd.prog 52 #[.pointer (some ⟨I, 0, none⟩)] w fun e w' => e = .returned (.tuple #[(gC l err).v, .int .i64 (gE l err)]) ∧ In w' I (nL l err 11) (nE l err 11) ∧ w.grownBy w' (some I) := by
  have hR := raw_any I l err 11 (w.alloc (.cells #[.int .i64 0, .int .i64 0, .int .u64 0, .int .i64 0] 24)) (hI.below (by go_grown)) hl (by decide)
  have hIlt := hI.lt
  have HR := Lib.hid hR
  have hk := Blk.new w #[.int .i64 0, .int .i64 0, .int .u64 0, .int .i64 0] 24
  have HK := Lib.hid hk
  have HOf := fun v l W hs hl => Lib.hid (of_any v l W hs hl)
  have HErr := fun l e W h => Lib.hid (err_any I l e W h)
  have HBy := Lib.hid hb
  have hlr : (nR l err 11).length ≤ 1000000 := by
    unfold nR
    split
    · simp; omega
    · simp
  clear hI hR hk hb
  by_cases h0 : nE l err 11 = 0
  · have hnr : err = 0 ∧ 11 ≤ l.length := by
      unfold nE at h0
      split at h0
      · omega
      · split at h0
        · omega
        · omega
    have hb11 : nR l err 11 = l.take 11 := by unfold nR; rw [if_pos hnr]
    have hbl : (l.take 11).length = 11 := by simp; omega
    have hbb : Bytes (l.take 11) := HBy.out.take 11
    have hC : gC l err = if chk (ofB (l.take 11)) = 0 then ofB (l.take 11) else C.zero := by unfold gC; simp [h0]
    have hE : gE l err = if chk (ofB (l.take 11)) ≠ 0 then 4 else 0 := by unfold gE; rw [if_neg (by simp [h0])]
    rw [hb11] at HR
    have HNE := Lib.hid h0
    rw [h0] at HR
    have n0 := num_one _ 0 hbb (by omega)
    have n1 := num_one _ 1 hbb (by omega)
    have n10 := num_one _ 10 hbb (by omega)
    have d0 : ((l.take 11).drop 0).take 1 = (l.take 11).take 1 := by simp
    rw [d0] at n0
    have r0 := hbb.getD 0
    have r1 := hbb.getD 1
    have r10 := hbb.getD 10
    have HS := fun J b' k W hI hl hk1 hk hkb hb => Lib.hid (get_step J b' k W hI hl hk1 hk hkb hb)
    have hof : ofB (l.take 11) = ⟨(l.take 11).getD 0 0, (l.take 11).getD 1 0, num (((l.take 11).drop 2).take 8), (l.take 11).getD 10 0⟩ := rfl
    generalize hbe : l.take 11 = b at *
    have HC := fun W => Lib.hid (check_any (ofB b) W)
    rw [hof] at HC hC hE
    have hlong := num_range ((b.drop 2).take 8) ((hbb.drop 2).take 8)
    generalize hx2 : num ((b.drop 2).take 8) = x2 at *
    generalize b.getD 0 0 = x0 at *
    generalize b.getD 1 0 = x1 at *
    generalize b.getD 10 0 = x3 at *
    have wx0 : IntKind.i64.wrap x0 = x0 := i64_in _ (by omega) (by omega)
    have wx1 : IntKind.i64.wrap x1 = x1 := i64_in _ (by omega) (by omega)
    have wx3 : IntKind.i64.wrap x3 = x3 := i64_in _ (by omega) (by omega)
    have HX2 := Lib.hid hx2
    have HN0 := Lib.hid n0
    have HN1 := Lib.hid n1
    have HN10 := Lib.hid n10
    have HBB := Lib.hid hbb
    have HBL := Lib.hid hbl
    clear hx2 n0 n1 n10 hbb hbl hb11 hnr hof hbe d0 r0 r1 r10 hlong hl hlr
    generalize hcx : chk ⟨x0, x1, x2, x3⟩ = cx at *
    have HGC := Lib.hid hC
    have HGE := Lib.hid hE
    clear hcx hC hE h0
    unfold C.v C.cells at HC
    simp only at HC
    go_enter Tryd.func52, Tryd.ntmps52
    go_wp2_with fail
    refine HR.out.mono ?_
    rintro e w1 ⟨v, rfl, h1, h2, h3⟩
    have HO := HOf v b w1 h2.sl (by rw [HBL.out]; decide)
    have H1 := Lib.hid h1
    have H3 := Lib.hid h3
    clear h1 h2 h3
    go_wp2_with fail
    refine HO.out.mono ?_
    rintro e w2 ⟨J, rfl, h1, h2, h3⟩
    have HJ := Lib.hid h1
    have HJ1 := Lib.hid h2
    have HB1 := Lib.hid h3
    have HEr := HErr _ _ w2 (H1.out.below h3)
    clear h1 h2 h3
    go_wp2_with fail
    refine HEr.out.mono ?_
    rintro e w' ⟨rfl, rfl⟩
    go_wp2_with fail
    refine (HS J b 1 w2 HJ.out (by rw [HBL.out]; decide) (by decide) (by decide) (by rw [HBL.out]; decide) HBB.out).out.mono ?_
    rintro e w3 ⟨rfl, h1, h2⟩
    rw [HN0.out]
    have HJ3 := Lib.hid h1
    have HB3 := Lib.hid (HB1.out.grown h2 HB1.out.size (fun k e => by have e2 : J = k := Option.some.inj e; have := HJ1.out; omega))
    clear h1 h2
    go_wp2_with fail
    refine (HS J (b.drop 1) 1 w3 HJ3.out (by simp [HBL.out]) (by decide) (by decide) (by simp [HBL.out]) (HBB.out.drop 1)).out.mono ?_
    rintro e w4 ⟨rfl, h1, h2⟩
    rw [HN1.out]
    have HJ4 := Lib.hid h1
    have HB4 := Lib.hid (HB3.out.grown h2 HB3.out.size (fun k e => by have e2 : J = k := Option.some.inj e; have := HJ1.out; omega))
    clear h1 h2
    go_wp2_with fail
    refine (HS J ((b.drop 1).drop 1) 8 w4 HJ4.out (by simp [HBL.out]) (by decide) (by decide) (by simp [HBL.out]) ((HBB.out.drop 1).drop 1)).out.mono ?_
    rintro e w5 ⟨rfl, h1, h2⟩
    rw [List.drop_drop, HX2.out]
    have HJ5 := Lib.hid h1
    have HB5 := Lib.hid (HB4.out.grown h2 HB4.out.size (fun k e => by have e2 : J = k := Option.some.inj e; have := HJ1.out; omega))
    clear h1 h2
    go_wp2_with fail
    refine (HS J (((b.drop 1).drop 1).drop 8) 1 w5 HJ5.out (by simp [HBL.out]) (by decide) (by decide) (by simp [HBL.out]) (((HBB.out.drop 1).drop 1).drop 8)).out.mono ?_
    rintro e w6 ⟨rfl, h1, h2⟩
    rw [List.drop_drop, List.drop_drop, HN10.out]
    have hb6 := HB5.out.grown h2 HB5.out.size (fun k e => by have e2 : J = k := Option.some.inj e; have := HJ1.out; omega)
    have HB6 := Lib.hid hb6
    have hk6 := (HK.out.grown H3.out (by simp; omega)).below hb6 (by have := H3.out.size; simp at this; omega)
    have HK6 := Lib.hid hk6
    clear h1 h2 hb6
    go_wp2_with fail
    refine (HC _).out.mono ?_
    rintro e w7 ⟨rfl, rfl⟩
    have hk7 := (HK6.out.alloc (.cells #[.int .i64 x0, .int .i64 x1, .int .u64 x2, .int .i64 x3] 24)).alloc (.cells #[.int .i64 x0, .int .i64 x1, .int .u64 x2, .int .i64 x3] 24)
    have c0 := hk7.cell (i := 0) (v := .int .i64 0) rfl
    have c1 := hk7.cell (i := 1) (v := .int .i64 0) rfl
    have c2 := hk7.cell (i := 2) (v := .int .u64 0) rfl
    have c3 := hk7.cell (i := 3) (v := .int .i64 0) rfl
    have z0 := hk7.free 0
    have z1 := hk7.free 1
    have z2 := hk7.free 2
    have z3 := hk7.free 3
    have hb7 : Below w1.heap.size w1 ((w6.alloc (.cells #[.int .i64 x0, .int .i64 x1, .int .u64 x2, .int .i64 x3] 24)).alloc (.cells #[.int .i64 x0, .int .i64 x1, .int .u64 x2, .int .i64 x3] 24)) := (HB6.out.alloc HB6.out.size _).alloc (by have := HB6.out.size; simp; omega) _
    have HB7 := Lib.hid hb7
    have HK7 := Lib.hid hk7
    clear hk6 hk7 hb7
    have wlt : w.heap.size < w1.heap.size := by have := H3.out.size; simp at this; omega
    have fin : ∀ c : C, In (setC ((w6.alloc (.cells #[.int .i64 x0, .int .i64 x1, .int .u64 x2, .int .i64 x3] 24)).alloc (.cells #[.int .i64 x0, .int .i64 x1, .int .u64 x2, .int .i64 x3] 24)) w.heap.size c) I (nL l err 11) 0 ∧
        w.grownBy (setC ((w6.alloc (.cells #[.int .i64 x0, .int .i64 x1, .int .u64 x2, .int .i64 x3] 24)).alloc (.cells #[.int .i64 x0, .int .i64 x1, .int .u64 x2, .int .i64 x3] 24)) w.heap.size c) (some I) := fun c =>
      ⟨setC_in (H1.out.below HB7.out) HK7.out (by omega) c, setC_grown (grown_trans (grown_trans (grown_alloc w _ _) H3.out) (grown_of_below HB7.out _)) (Nat.le_refl _) c⟩
    have FIN := Lib.hid fin
    have RB := fun c => Lib.hid (setC_blk HK7.out c)
    clear fin
    by_cases hcx : cx = 0
    · have HG1 := Lib.hid (HGC.out.trans (if_pos hcx))
      have HG2 := Lib.hid (HGE.out.trans (if_neg (by simp [hcx])))
      subst hcx
      go_wp2_with fail
      have r0 := (RB ⟨x0, x1, x2, x3⟩).out.cell (i := 0) (v := .int .i64 x0) rfl
      have r1 := (RB ⟨x0, x1, x2, x3⟩).out.cell (i := 1) (v := .int .i64 x1) rfl
      have r2 := (RB ⟨x0, x1, x2, x3⟩).out.cell (i := 2) (v := .int .u64 x2) rfl
      have r3 := (RB ⟨x0, x1, x2, x3⟩).out.cell (i := 3) (v := .int .i64 x3) rfl
      unfold setC at r0 r1 r2 r3
      refine bodyPost_ret (v := .tuple #[.agg #[.int .i64 x0, .int .i64 x1, .int .u64 x2, .int .i64 x3], .int .i64 0]) (by simp [results, Tryd.results52, go_sem, r0, r1, r2, r3]) rfl ?_
      rw [HG1.out, HG2.out, HNE.out]
      exact ⟨rfl, FIN.out ⟨x0, x1, x2, x3⟩⟩
    · have hb1 : (cx != 0) = true := by simp [hcx]
      have HG1 := Lib.hid (HGC.out.trans (if_neg hcx))
      have HG2 := Lib.hid (HGE.out.trans (if_pos hcx))
      clear hcx
      go_wp2_with fail
      have r0 := (RB C.zero).out.cell (i := 0) (v := .int .i64 0) rfl
      have r1 := (RB C.zero).out.cell (i := 1) (v := .int .i64 0) rfl
      have r2 := (RB C.zero).out.cell (i := 2) (v := .int .u64 0) rfl
      have r3 := (RB C.zero).out.cell (i := 3) (v := .int .i64 0) rfl
      unfold setC C.zero at r0 r1 r2 r3
      refine bodyPost_ret (v := .tuple #[.agg #[.int .i64 0, .int .i64 0, .int .u64 0, .int .i64 0], .int .i64 4]) (by simp [results, Tryd.results52, go_sem, r0, r1, r2, r3]) rfl ?_
      rw [HG1.out, HG2.out, HNE.out]
      exact ⟨rfl, FIN.out C.zero⟩
  · have HG1 := Lib.hid (show gC l err = C.zero by unfold gC; simp [h0])
    have HG2 := Lib.hid (show gE l err = nE l err 11 by unfold gE; rw [if_pos h0])
    have hb1 : (nE l err 11 != 0) = true := by simp [h0]
    have HLR := Lib.hid hlr
    clear h0 hlr
    generalize nE l err 11 = en at *
    go_enter Tryd.func52, Tryd.ntmps52
    go_wp2_with fail
    refine HR.out.mono ?_
    rintro e w1 ⟨v, rfl, h1, h2, h3⟩
    have HO := HOf v _ w1 h2.sl HLR.out
    have H1 := Lib.hid h1
    have H3 := Lib.hid h3
    clear h1 h2 h3
    go_wp2_with fail
    refine HO.out.mono ?_
    rintro e w2 ⟨J, rfl, h1, h2, h3⟩
    have HB1 := Lib.hid h3
    have HEr := HErr _ _ w2 (H1.out.below h3)
    have hk2 := (HK.out.grown H3.out (by simp; omega)).below h3 (by have := H3.out.size; simp at this; omega)
    have HK2 := Lib.hid hk2
    have c0 := hk2.cell (i := 0) (v := .int .i64 0) rfl
    have c1 := hk2.cell (i := 1) (v := .int .i64 0) rfl
    have c2 := hk2.cell (i := 2) (v := .int .u64 0) rfl
    have c3 := hk2.cell (i := 3) (v := .int .i64 0) rfl
    have z0 := hk2.free 0
    have z1 := hk2.free 1
    have z2 := hk2.free 2
    have z3 := hk2.free 3
    clear h1 h2 h3 hk2
    go_wp2_with fail
    refine HEr.out.mono ?_
    rintro e w' ⟨rfl, rfl⟩
    go_wp2_with fail
    have rb := setC_blk HK2.out C.zero
    have r0 := rb.cell (i := 0) (v := .int .i64 0) rfl
    have r1 := rb.cell (i := 1) (v := .int .i64 0) rfl
    have r2 := rb.cell (i := 2) (v := .int .u64 0) rfl
    have r3 := rb.cell (i := 3) (v := .int .i64 0) rfl
    unfold setC C.zero at r0 r1 r2 r3
    refine bodyPost_ret (v := .tuple #[.agg #[.int .i64 0, .int .i64 0, .int .u64 0, .int .i64 0], .int .i64 en]) (by simp [results, Tryd.results52, go_sem, r0, r1, r2, r3]) rfl ?_
    rw [HG1.out, HG2.out]
    exact ⟨rfl, setC_in (H1.out.below HB1.out) HK2.out (by omega) C.zero, setC_grown (grown_trans (grown_trans (grown_alloc w _ _) H3.out) (grown_of_below HB1.out _)) (Nat.le_refl _) C.zero⟩

end Go.Proofs.YtlpkandfmbnlnaaDoor.Cmd
