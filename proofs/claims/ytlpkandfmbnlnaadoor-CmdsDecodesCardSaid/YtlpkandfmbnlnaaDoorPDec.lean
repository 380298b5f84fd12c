/- The plain law of CmdsDecodes. No memory in it. -/
import Derived.Test.YtlpkandfmbnlnaaDoorE2
import Derived.Test.YtlpkandfmbnlnaaDoorGDec
import Derived.Test.YtlpkandfmbnlnaaDoorPCmd
set_option linter.unusedVariables false
set_option linter.unusedSimpArgs false
namespace Go.Proofs.YtlpkandfmbnlnaaDoor.PTxt
open Go Go.RowKit Go.Proofs.YtlpkandfmbnlnaaDoor.R Go.Proofs.YtlpkandfmbnlnaaDoorW.PrintWords Go.Proofs.YtlpkandfmbnlnaaDoorW.PrintLast Go.Proofs.YtlpkandfmbnlnaaDoorW.PrintMore
open Go.Proofs.YtlpkandfmbnlnaaDoor.Str Go.Proofs.YtlpkandfmbnlnaaDoor.Txt Go.Proofs.YtlpkandfmbnlnaaDoor.Cmd Go.Proofs.YtlpkandfmbnlnaaDoor.C Go.Proofs.YtlpkandfmbnlnaaDoor.E Go.Proofs.YtlpkandfmbnlnaaDoor.Num Go.Proofs.YtlpkandfmbnlnaaDoor.Fix

theorem cb_ofB (b : List Int) (hl : b.length = 11) (hb : Bytes b) : cb (ofB b) = b := by
  have h0 := hb.getD 0
  have h1 := hb.getD 1
  have h10 := hb.getD 10
  have hm : ((b.drop 2).take 8).length = 8 := by simp; omega
  have e8 := be_num ((b.drop 2).take 8) ((hb.drop 2).take 8) (by omega)
  rw [hm] at e8
  unfold cb ofB
  simp only
  rw [e8, be1, be1, be1]
  match b, hl with
  | [x0, x1, x2, x3, x4, x5, x6, x7, x8, x9, x10], _ =>
    simp only [List.getD_cons_zero, List.getD_cons_succ] at h0 h1 h10 ⊢
    have f0 : ((x0.toNat % 256 : Nat) : Int) = x0 := by omega
    have f1 : ((x1.toNat % 256 : Nat) : Int) = x1 := by omega
    have f10 : ((x10.toNat % 256 : Nat) : Int) = x10 := by omega
    rw [f0, f1, f10]
    rfl
theorem dC_ep (b : List Int) (hb : Bytes b) : 0 ≤ (dC b).ep ∧ (dC b).ep < 18446744073709551616 := by
  unfold dC
  split
  · unfold gC
    split
    · exact num_range _ (((hb.take 11).drop 2).take 8)
    · exact ⟨by decide, by decide⟩
  · exact ⟨by decide, by decide⟩
theorem dE_zero (b : List Int) (hb : Bytes b) (h : dE b = 0) : chk (dC b) = 0 ∧ encB (dC b) = b := by
  unfold dE at h
  by_cases hg : gE b 0 = 0
  · rw [if_neg (by simp [hg])] at h
    by_cases hl : b.length = 11
    · have hd : dC b = gC b 0 := by unfold dC; rw [if_pos ⟨hg, hl⟩]
      have ht : b.take 11 = b := List.take_of_length_le (by omega)
      have hn : nE b 0 11 = 0 := by unfold nE; rw [if_neg (by simp), if_neg (by omega)]
      unfold gE at hg
      rw [hn, if_neg (by simp), ht] at hg
      have hc : chk (ofB b) = 0 := by
        by_cases hc : chk (ofB b) = 0
        · exact hc
        · rw [if_pos hc] at hg; cases hg
      have hgc : gC b 0 = ofB b := by unfold gC; rw [hn, ht, if_pos ⟨rfl, hc⟩]
      rw [hd, hgc]
      refine ⟨hc, ?_⟩
      unfold encB
      rw [if_pos hc, cb_ofB b hl hb]
    · rw [if_neg hl] at h; cases h
  · rw [if_pos hg] at h; exact absurd h hg
theorem cut_f (l : List Int) : catenaryref01_Cut.f l 60 = some (l.take 60) := by
  unfold catenaryref01_Cut.f
  split
  · rw [if_pos (by omega), if_pos (by omega)]
    rfl
  · rw [List.take_of_length_le (by omega)]

/-- The pure law of CmdsDecodes. -/
theorem CmdsDecodes : catenarylaw08_CmdsDecodes.Pure := by
  intro l hm hs hw
  have hb0 : Bytes l := fun x hx => by
    have := hw x hx
    simp only [Lit.wf, Bool.and_eq_true, decide_eq_true_eq] at this
    have h2 : 0 ≤ x ∧ x ≤ 255 := this
    omega
  refine Ev.rounds ?_
  unfold catenarylaw08_CmdsDecodes.f
  rw [cut_f]
  have hlen : (l.take 60).length ≤ 60 := by simp; omega
  have hb := hb0.take 60
  generalize l.take 60 = b at *
  simp only [Option.bind_some]
  rw [decode_f b (by omega) hb, show catenaryref08_Decode.f b = some ((dC b).kind, (dC b).chain, (dC b).ep, (dC b).node, dE b) from decode_f b (by omega) hb]
  simp only [Option.bind_some, beq_self_eq_true, Bool.not_true, Bool.or_false, bne_self_eq_false, Bool.false_eq_true, if_false]
  obtain ⟨e0, e1⟩ := dC_ep b hb
  refine Ev.step (fun k => by rw [catenarylaw08_CmdsDecodes.j0, if_neg (by decide)]) ?_
  rw [show cmds_Encode.f (dC b).kind (dC b).chain (dC b).ep (dC b).node = some (encB (dC b), chk (dC b)) from if_pos ⟨e0, e1⟩]
  simp only [Option.bind_some, awake_f]
  by_cases h : dE b = 0
  · obtain ⟨h1, h2⟩ := dE_zero b hb h
    simp only [if_pos h, h1, h2, if_true]
    refine Ev.bind (same_ev b (by omega)) ?_
    simp only [if_true]
    exact Ev.now _
  · simp only [if_neg h]
    exact Ev.now _
end Go.Proofs.YtlpkandfmbnlnaaDoor.PTxt
