/- Commands as bytes: cmds.Encode, Get, Decode, and the chapter's Bytes, Get, Decode. -/
import Derived.Test.YtlpkandfmbnlnaaDoorCmds
set_option linter.unusedVariables false
set_option linter.unusedSimpArgs false
set_option maxRecDepth 100000
namespace Go.Proofs.YtlpkandfmbnlnaaDoor.Cmd
open Go Go.RowKit Go.Proofs.YtlpkandfmbnlnaaDoor.Mem Go.Proofs.YtlpkandfmbnlnaaDoor.Num Go.Proofs.YtlpkandfmbnlnaaDoor.Fix Go.Proofs.YtlpkandfmbnlnaaDoor.Ref

set_option maxHeartbeats 1000000 in
/-- cmds.Encode. -/
theorem encode_any (c : C) (w : World) (he0 : 0 ≤ c.ep) (he : c.ep < 18446744073709551616) :
    Calls Tryd.prog 10 #[c.v] w fun e w' => ∃ u, e = .returned (.tuple #[u, .int .i64 (chk c)]) ∧ Own w' w.heap.size 5 .u8 u (encB c) ∧ Below w.heap.size w w' := by
  have HN := fun W => Lib.hid (new_any 11 W (by decide))
  have HP := fun L base W hO hown hb => Lib.hid (cput_any L base none [] 11 c W hO hown (by simp) (by decide) he0 he hb)
  have HE : ∀ (n : Nat), n = (encB c).length → Hid (n ≤ 1000000) := fun n e => Lib.hid (by rw [e]; unfold encB; split <;> simp [cb_len])
  have HZ := Lib.hid (show chk c ≠ 0 → encB c = [] from fun h => if_neg h)
  have hlen : (encB c).length ≤ 1000000 := (HE _ rfl).out
  generalize encB c = bs at *
  generalize chk c = x at *
  obtain ⟨K, H, E, N⟩ := c
  unfold C.v at HP ⊢
  simp only at HP ⊢
  have hO0 : Out ((w.alloc (.cells #[.int .i64 K, .int .i64 H, .int .u64 E, .int .i64 N] 24)).alloc (.cells #[.slice none 0 0, .int .i64 11, .int .i64 0] 106)) w.heap.size (w.heap.size + 1) none [] 11 0 := by
    have hk := Blk.new (w.alloc (.cells #[.int .i64 K, .int .i64 H, .int .u64 E, .int .i64 N] 24)) #[.slice none 0 0, .int .i64 11, .int .i64 0] 106
    rw [World.size_alloc] at hk
    exact ⟨_, hk, Own.nil _ _ _ _, rfl, by omega⟩
  have HPP := HP (w.heap.size + 1) w.heap.size _ hO0 (fun b e => by cases e) (by simp; omega)
  have hwb : Below w.heap.size w ((w.alloc (.cells #[.int .i64 K, .int .i64 H, .int .u64 E, .int .i64 N] 24)).alloc (.cells #[.slice none 0 0, .int .i64 11, .int .i64 0] 106)) := by go_grown
  have HWB := Lib.hid hwb
  clear HP hO0 he0 he hwb
  by_cases hx : x = 0
  · subst hx
    go_enter Tryd.func10, Tryd.ntmps10
    go_wp2_with fail
    refine (HN _).out.mono ?_
    rintro e w' ⟨rfl, rfl⟩
    go_wp2_with fail
    refine HPP.out.mono ?_
    rintro e w2 ⟨rfl, ⟨own', h1, h2⟩, h3⟩
    have hb2 : Below w.heap.size w w2 := HWB.out.trans (h3.below HWB.out.size (by rintro i (rfl | e); omega; cases e))
    have HD := Lib.hid (done_any (w.heap.size + 1) w.heap.size own' _ 11 0 w2 h1 (by simpa using hlen))
    have HB2 := Lib.hid hb2
    clear h1 h2 h3 hb2
    go_wp2_with fail
    refine HD.out.mono ?_
    rintro e w3 ⟨u, rfl, ho, hb3⟩
    have HO := Lib.hid ho
    have HB3 := Lib.hid hb3
    clear ho hb3
    go_wp2_with fail
    go_ret2
    exact ⟨_, rfl, (show Own _ _ _ _ _ bs by simpa [doneS] using HO.out).base HB2.out.size, HB2.out.trans (HB3.out.mono HB2.out.size)⟩
  · have hb1 : (x != 0) = true := by simp [hx]
    have HNil := Lib.hid (HZ.out hx)
    clear hx
    go_enter Tryd.func10, Tryd.ntmps10
    go_wp2_with fail
    refine (HN _).out.mono ?_
    rintro e w' ⟨rfl, rfl⟩
    go_wp2_with fail
    refine HPP.out.mono ?_
    rintro e w2 ⟨rfl, ⟨own', h1, h2⟩, h3⟩
    have hb2 : Below w.heap.size w w2 := HWB.out.trans (h3.below HWB.out.size (by rintro i (rfl | e); omega; cases e))
    have HB2 := Lib.hid hb2
    clear h1 h2 h3 hb2
    go_wp2_with fail
    go_ret2
    exact ⟨_, rfl, by rw [HNil.out]; exact Own.nil _ _ _ _, HB2.out⟩

set_option maxHeartbeats 1000000 in
/-- The chapter's Bytes. -/
theorem bytes_any (c : C) (w : World) (h : chk c = 0) (he0 : 0 ≤ c.ep) (he : c.ep < 18446744073709551616) :
    Calls Tryd.prog 19 #[c.v] w fun e w' => ∃ u, e = .returned u ∧ Own w' w.heap.size 5 .u8 u (cb c) ∧ Below w.heap.size w w' := by
  obtain ⟨h1, h2, h3, h4, h5, h6⟩ := chk_ok c h he0
  obtain ⟨K, H, E, N⟩ := c
  simp only at h1 h2 h3 h4 h5 h6 he0 he
  obtain ⟨K, rfl⟩ : ∃ k : Nat, K = k := ⟨K.toNat, by omega⟩
  obtain ⟨H, rfl⟩ : ∃ k : Nat, H = k := ⟨H.toNat, by omega⟩
  obtain ⟨E, rfl⟩ : ∃ k : Nat, E = k := ⟨E.toNat, by omega⟩
  obtain ⟨N, rfl⟩ : ∃ k : Nat, N = k := ⟨N.toNat, by omega⟩
  have hs : cb ⟨K, H, E, N⟩ = ([(K : Int), (H : Int)] ++ be 8 E) ++ [(N : Int)] := by
    have e1 : K % 256 = K := by omega
    have e2 : H % 256 = H := by omega
    have e3 : N % 256 = N := by omega
    simp [cb, be, e1, e2, e3]
  have wk : IntKind.u8.wrap (K : Int) = K := by rw [IntKind.wrap_u8]; omega
  have wh : IntKind.u8.wrap (H : Int) = H := by rw [IntKind.wrap_u8]; omega
  have wn : IntKind.u8.wrap (N : Int) = N := by rw [IntKind.wrap_u8]; omega
  have wk2 : (K : Int) % 256 = K := by omega
  have wh2 : (H : Int) % 256 = H := by omega
  have wn2 : (N : Int) % 256 = N := by omega
  rw [hs]
  unfold C.v
  simp only
  have HB := fun W => Lib.hid (big_any E 8 W (by omega) (by decide) (by decide) (by omega))
  have hL := own_lit (w.alloc (.cells #[.int .i64 K, .int .i64 H, .int .u64 E, .int .i64 N] 24)) w.heap.size 5 .u8 [(K : Int), (H : Int)] (by simp) (by simp)
  have HL := Lib.hid hL
  clear hL hs h
  go_enter Tryd.func19, Tryd.ntmps19
  go_wp2_with fail
  refine (HB _).out.mono ?_
  rintro e w1 ⟨u, rfl, ho, hb⟩
  have hl := HL.out
  rw [World.size_alloc] at hl
  have hk := (Blk.new w #[.int .i64 K, .int .i64 H, .int .u64 E, .int .i64 N] 24).alloc (.cells #[.int .u8 K, .int .u8 H] 5)
  have hk1 := hk.below hb (by simp; omega)
  have ho1 := Own.below hl hb
  have HBW := Lib.hid (show Below w.heap.size w w1 from (show Below w.heap.size w ((w.alloc (.cells #[.int .i64 K, .int .i64 H, .int .u64 E, .int .i64 N] 24)).alloc (.cells #[.int .u8 K, .int .u8 H] 5)) by go_grown).trans (hb.mono (by simp; omega)))
  obtain ⟨A, c, rfl, hc, hr, hn⟩ := ho.sl.look
  have c3 := hk1.cell (i := 3) (v := .int .i64 N) rfl
  have HK := Lib.hid hk1
  have HO := Lib.hid ho1
  have HR := Lib.hid hr
  have HN := Lib.hid hn
  clear hl hk hk1 ho1 ho hb hr hn
  go_wp2_with (first | (at_builtin; refine wp_app rfl _ _ _ rfl 5 .u8 1 Tryd.underlying27 info5 (by decide) w.heap.size (.slice (some ⟨w.heap.size + 1, 0, none⟩) 2 2) [(K : Int), (H : Int)] rfl HO.out A c (be 8 E) rfl HR.out HN.out (by simp [be_len]) HBW.out.size ?_; intro v2 w2 ho2 hg2 hat2; have c4 := (HK.out.grown hg2 (by simp [Value.ownBlock])).cell (i := 3) (v := .int .i64 N) rfl; have HO2 := Lib.hid ho2; have HG2 := Lib.hid hg2; clear ho2 hg2 hat2) | (at_builtin; refine wp_app rfl _ _ _ rfl 5 .u8 1 Tryd.underlying27 info5 (by decide) w.heap.size v2 ([(K : Int), (H : Int)] ++ be 8 E) rfl (HO2.out.alloc _) (some ⟨w2.heap.size, 0, none⟩) 1 [(N : Int)] rfl (own_lit w2 w2.heap.size 5 .u8 [(N : Int)] (Nat.le_refl _) (by simp)).sl.rd (fun e => by cases e) (by simp [be_len]) (by have := HBW.out.size; have := HG2.out.size; simp; omega) ?_; intro v3 w3 ho3 hg3 hat3; have HO3 := Lib.hid ho3; have HG3 := Lib.hid hg3; clear ho3 hg3 hat3))
  go_ret
  refine ⟨_, rfl, HO3.out, ?_⟩
  have b1 : Below w.heap.size w w2 := HBW.out.grown HG2.out HBW.out.size (fun k e => by have e2 : w.heap.size + 1 = k := Option.some.inj e; omega)
  exact (b1.alloc b1.size _).grown HG3.out (by have := b1.size; simp; omega) (fun k e => (HO2.out.lt k e).1)

end Go.Proofs.YtlpkandfmbnlnaaDoor.Cmd
