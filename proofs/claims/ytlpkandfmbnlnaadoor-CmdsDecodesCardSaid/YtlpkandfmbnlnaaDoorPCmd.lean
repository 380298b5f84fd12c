/- The plain laws of commands as bytes, and of Same. No memory in it. -/
import Derived.Test.YtlpkandfmbnlnaaDoorC1
import Derived.Test.YtlpkandfmbnlnaaDoorGEnc
import Derived.Test.YtlpkandfmbnlnaaDoorPParse
set_option linter.unusedVariables false
set_option linter.unusedSimpArgs false
namespace Go.Proofs.YtlpkandfmbnlnaaDoor.PTxt
open Go Go.RowKit Go.Proofs.YtlpkandfmbnlnaaDoor.R Go.Proofs.YtlpkandfmbnlnaaDoorW.PrintWords Go.Proofs.YtlpkandfmbnlnaaDoorW.PrintLast Go.Proofs.YtlpkandfmbnlnaaDoorW.PrintMore
open Go.Proofs.YtlpkandfmbnlnaaDoor.Str Go.Proofs.YtlpkandfmbnlnaaDoor.Txt Go.Proofs.YtlpkandfmbnlnaaDoor.Cmd Go.Proofs.YtlpkandfmbnlnaaDoor.C Go.Proofs.YtlpkandfmbnlnaaDoor.Num Go.Proofs.YtlpkandfmbnlnaaDoor.Fix

theorem txt_len (c : C) (hc : c.chain < 18446744073709551616) (he : c.ep < 18446744073709551616) (hn : c.node < 18446744073709551616) : (txt c).length ≤ 100 := by
  unfold txt
  split
  · have := name_len 0
    omega
  · have := name_len c.kind
    have l1 := dec_len c.chain.toNat (by omega)
    have l2 := dec_len c.ep.toNat (by omega)
    have l3 := dec_len c.node.toNat (by omega)
    simp only [List.length_append, List.length_cons]
    omega

theorem pRes_txt (c : C) (h : chk c = 0) (he : c.ep < 18446744073709551616) : pRes (txt c) = (c, 0) := by
  rcases chk_parts c h with rfl | ⟨h1, h2, h3, h4, h5, h6, h7⟩
  · exact pRes_noop rfl
  · have hw := words_txt c h1
    have h0 : ¬ txt c = nmOf 0 := fun e => by
      rw [e] at hw
      have := congrArg List.length hw
      simp at this
      revert this
      decide
    have hk := kd_of_name c.kind ⟨by omega, h2⟩
    have e1 : ((dv (Lib.decDigits c.chain.toNat) : Nat) : Int) = c.chain := by rw [dv_dec]; omega
    have e2 : ((dv (Lib.decDigits c.ep.toNat) : Nat) : Int) = c.ep := by rw [dv_dec]; omega
    have e3 : ((dv (Lib.decDigits c.node.toNat) : Nat) : Int) = c.node := by rw [dv_dec]; omega
    have hok : pOk (nmOf c.kind) (Lib.decDigits c.chain.toNat) (Lib.decDigits c.ep.toNat) (Lib.decDigits c.node.toNat) = true := by
      rw [pOk_spec, hk, e1, e2, e3]
      exact ⟨plain_dec _ (by omega), plain_dec _ (by omega), plain_dec _ (by omega), by rw [dv_dec]; omega, by omega, h⟩
    rw [pRes_four h0 hw, if_pos hok, pC_of hok, hk, e1, e2, e3]

theorem be1 (n : Nat) : be 1 n = [((n % 256 : Nat) : Int)] := by simp [be]
theorem cb_len' (c : C) : (cb c).length = 11 := by simp [cb, be_len]
theorem cb_bytes (c : C) : Bytes (cb c) := by
  unfold cb
  exact ((be_bytes _ _).append (be_bytes _ _)).append (be_bytes _ _) |>.append (be_bytes _ _)
theorem ofB_cb (c : C) (h : chk c = 0) (h0 : 0 ≤ c.ep) (he : c.ep < 18446744073709551616) : ofB (cb c) = c := by
  obtain ⟨a1, a2, a3, a4, a5, a6⟩ := chk_ok c h h0
  obtain ⟨K, H, E, N⟩ := c
  simp only at a1 a2 a3 a4 a5 a6 h0 he
  have e : cb ⟨K, H, E, N⟩ = ((K.toNat % 256 : Nat) : Int) :: ((H.toNat % 256 : Nat) : Int) :: (be 8 E.toNat ++ [((N.toNat % 256 : Nat) : Int)]) := by simp [cb, be1]
  have hb : (be 8 E.toNat).length = 8 := be_len _ _
  unfold ofB
  rw [e]
  have g10 : ((((K.toNat % 256 : Nat) : Int) :: ((H.toNat % 256 : Nat) : Int) :: (be 8 E.toNat ++ [((N.toNat % 256 : Nat) : Int)])) : List Int).getD 10 0 = ((N.toNat % 256 : Nat) : Int) := by
    simp [List.getD, List.getElem?_append_right, hb]
  have g8 : (be 8 E.toNat ++ [((N.toNat % 256 : Nat) : Int)]).take 8 = be 8 E.toNat := by
    rw [← hb, List.take_left']
    rfl
  rw [g10]
  simp only [List.getD_cons_zero, List.getD_cons_succ, List.drop_succ_cons, List.drop_zero]
  rw [g8, num_be 8 _ (by decide)]
  congr 1 <;> omega
theorem d_cb (c : C) (h : chk c = 0) (h0 : 0 ≤ c.ep) (he : c.ep < 18446744073709551616) : dC (cb c) = c ∧ dE (cb c) = 0 := by
  have e1 : nE (cb c) 0 11 = 0 := by simp [nE, cb_len']
  have e2 : (cb c).take 11 = cb c := List.take_of_length_le (by rw [cb_len']; exact Nat.le_refl _)
  have g1 : gE (cb c) 0 = 0 := by
    unfold gE
    rw [e1, e2, ofB_cb c h h0 he, h]
    simp
  have g2 : gC (cb c) 0 = c := by
    unfold gC
    rw [e1, e2, ofB_cb c h h0 he, h]
    simp
  refine ⟨?_, ?_⟩
  · unfold dC
    rw [g1, g2, cb_len']
    simp
  · unfold dE
    rw [g1, cb_len']
    simp
theorem decode_f (l : List Int) (hl : l.length ≤ 1000000) (hb : Bytes l) : cmds_Decode.f l = some ((dC l).kind, (dC l).chain, (dC l).ep, (dC l).node, dE l) :=
  if_pos ⟨hl, List.all_eq_true.2 fun x hx => by simpa using hb x hx⟩

/-- Same of a list and itself. -/
theorem same_l0 (l : List Int) (hl : l.length ≤ 1000000) : ∀ (d i : Nat), i + d = l.length → Ev (fun k => catenaryref01_Same.l0 k l l (i : Int)) true := by
  intro d
  induction d with
  | zero =>
    intro i hi
    refine Ev.step (f := fun _ => some true) (fun k => ?_) (Ev.now _)
    simp only [catenaryref01_Same.l0]
    rw [if_neg (by omega)]
  | succ d ih =>
    intro i hi
    refine Ev.step (f := fun k => catenaryref01_Same.l0 k l l ((i + 1 : Nat) : Int)) (fun k => ?_) (ih (i + 1) (by omega))
    simp only [catenaryref01_Same.l0]
    rw [if_pos (by omega), if_pos (by omega), if_pos (by omega), if_pos trivial, wrap_id _ (by omega) (by omega)]
    rfl
theorem same_ev (l : List Int) (hl : l.length ≤ 1000000) : Ev (fun k => catenaryref01_Same.f k l l) true := by
  unfold catenaryref01_Same.f
  simp only [if_pos]
  exact same_l0 l hl l.length 0 (by omega)

end Go.Proofs.YtlpkandfmbnlnaaDoor.PTxt
