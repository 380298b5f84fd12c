/- A command's bytes and the command of bytes, in the form of the printed functions. -/
import Derived.Test.YtlpkandfmbnlnaaDoorC0
import Derived.Test.YtlpkandfmbnlnaaDoorCmdsG
import Derived.Test.YtlpkandfmbnlnaaDoorCmdsD
import Derived.Lib.RuneCount
import Derived.Test.YtlpkandfmbnlnaaDoorEnv
namespace Go.Proofs.YtlpkandfmbnlnaaDoor.C
open Go.RowKit Go.Proofs.YtlpkandfmbnlnaaDoor.C Go.Proofs.YtlpkandfmbnlnaaDoorW.PrintWords Go.Proofs.YtlpkandfmbnlnaaDoorW.PrintLast Go.Proofs.YtlpkandfmbnlnaaDoorW.PrintMore
open Go.Proofs.YtlpkandfmbnlnaaDoor.Mem Go.Proofs.YtlpkandfmbnlnaaDoor.Fix Go.Proofs.YtlpkandfmbnlnaaDoor.Cmd Go.Proofs.YtlpkandfmbnlnaaDoor.Num
set_option linter.unusedVariables false
theorem R_of_own {e : TypeId} {k : IntKind} {w : World} {base : Nat} {v : Value} {l : List Int} (h : Own w base e k v l) : Kd.R (Kd.int k) e w base (fun _ => True) v l :=
  ⟨fun _ _ => trivial, l.map (Value.int k), h, by simp [Kd.int, Kd.scalar], fun j p hj => by
    show ((l.map (Value.int k)).drop (j * 1)).take 1 = [Value.int k p]
    obtain ⟨h1, h2⟩ := List.getElem?_eq_some_iff.1 hj
    rw [Nat.mul_one, List.drop_eq_getElem_cons (by simpa using h1)]
    simp [h2]⟩
theorem rd_of_C {w : World} {k : IntKind} {A : Option Addr} {l : List Int} (h : Kd.C (Kd.int k) w A l.length l) : Rd w k A l := fun h0 => by
  obtain ⟨ad, rfl, hc⟩ := h.2.2 h0
  have key : ∀ (j : Nat) x, l[j]? = some x → w.cell? (ad.add j) = some (.int k x) := fun j x hx => by
    obtain ⟨c, hl, hr, hcell⟩ := hc j x hx
    have hr' : c = [Value.int k x] := hr
    subst hr'
    have := hcell 0 (.int k x) rfl
    rwa [show j * (Kd.int k).sz + 0 = j from by show j * 1 + 0 = j; omega] at this
  have k0 := key 0 l[0] (List.getElem?_eq_getElem h0)
  have hs : ad.spot = none := by
    have : ad.add 0 = ad := by unfold Addr.add; rw [if_pos rfl]
    rw [this] at k0
    unfold World.cell? at k0
    split at k0
    · split at k0
      · cases k0
      · rename_i hs
        simpa using hs
    · cases k0
  obtain ⟨bk, o, sp⟩ := ad
  simp only at hs
  subst hs
  refine ⟨bk, o, rfl, ?_, fun j hj => ?_⟩
  · have := World.block_lt_of_cell? w _ k0
    rwa [Lib.add_plain] at this
  · rw [← Lib.add_plain]
    rw [key j l[j] (List.getElem?_eq_getElem hj)]
    simp [List.getD, hj]
theorem slw_of_C {w : World} {A : Option Addr} {c : Nat} {l : List Int} (h : Kd.C (Kd.int .u8) w A l.length l) (hc : l.length ≤ c) : Slw w (.slice A l.length c) l := by
  cases A with
  | none =>
    have : l = [] := by
      rcases Nat.eq_zero_or_pos l.length with h0 | h0
      · exact List.eq_nil_of_length_eq_zero h0
      · obtain ⟨ad, e, _⟩ := h.2.2 h0
        cases e
    subst this
    exact Or.inr ⟨c, rfl, rfl⟩
  | some ad => exact Or.inl (Sl.mk' (rd_of_C h) hc (fun e => by cases e))
def cmds_Encode.f (a0_0 : Int) (a0_1 : Int) (a0_2 : Int) (a0_3 : Int) : Option (List Int × Int) := if 0 ≤ a0_2 ∧ a0_2 < 18446744073709551616 then some (encB ⟨a0_0, a0_1, a0_2, a0_3⟩, chk ⟨a0_0, a0_1, a0_2, a0_3⟩) else none
theorem cmds_Encode.calls (a0_0 : Int) (a0_1 : Int) (a0_2 : Int) (a0_3 : Int) (r1 : List Int) (r2 : Int) (w : World) (h : cmds_Encode.f a0_0 a0_1 a0_2 a0_3 = some (r1, r2)) :
    Calls Tryd.prog 10 #[.agg #[.int .i64 a0_0, .int .i64 a0_1, .int .u64 a0_2, .int .i64 a0_3]] w fun e w' => ∃ v0_ : Value, e = .returned (.tuple #[v0_, .int .i64 r2]) ∧ Kd.R (Kd.int .u8) 5 w' w.heap.size (fun _ => True) v0_ r1 ∧ Below w.heap.size w w' := by
  unfold cmds_Encode.f at h
  by_cases hc : 0 ≤ a0_2 ∧ a0_2 < 18446744073709551616
  · rw [if_pos hc] at h
    have h2 := Option.some.inj h
    simp only [Prod.mk.injEq] at h2
    obtain ⟨rfl, rfl⟩ := h2
    refine (encode_any ⟨a0_0, a0_1, a0_2, a0_3⟩ w hc.1 hc.2).mono ?_
    rintro e w' ⟨u, rfl, ho, hb⟩
    exact ⟨u, rfl, R_of_own ho, hb⟩
  · rw [if_neg hc] at h
    cases h
def catenaryref08_Bytes.f (a0_0 : Int) (a0_1 : Int) (a0_2 : Int) (a0_3 : Int) : Option (List Int) := if chk ⟨a0_0, a0_1, a0_2, a0_3⟩ = 0 ∧ 0 ≤ a0_2 ∧ a0_2 < 18446744073709551616 then some (cb ⟨a0_0, a0_1, a0_2, a0_3⟩) else none
theorem catenaryref08_Bytes.calls (a0_0 : Int) (a0_1 : Int) (a0_2 : Int) (a0_3 : Int) (r : List Int) (w : World) (h : catenaryref08_Bytes.f a0_0 a0_1 a0_2 a0_3 = some r) :
    Calls Tryd.prog 19 #[.agg #[.int .i64 a0_0, .int .i64 a0_1, .int .u64 a0_2, .int .i64 a0_3]] w fun e w' => ∃ v0_ : Value, e = .returned (v0_) ∧ Kd.R (Kd.int .u8) 5 w' w.heap.size (fun _ => True) v0_ r ∧ Below w.heap.size w w' := by
  unfold catenaryref08_Bytes.f at h
  by_cases hc : chk ⟨a0_0, a0_1, a0_2, a0_3⟩ = 0 ∧ 0 ≤ a0_2 ∧ a0_2 < 18446744073709551616
  · rw [if_pos hc] at h
    obtain rfl := Option.some.inj h
    refine (bytes_any ⟨a0_0, a0_1, a0_2, a0_3⟩ w hc.1 hc.2.1 hc.2.2).mono ?_
    rintro e w' ⟨u, rfl, ho, hb⟩
    exact ⟨u, rfl, R_of_own ho, hb⟩
  · rw [if_neg hc] at h
    cases h
def cmds_Decode.f (a0 : List Int) : Option (Int × Int × Int × Int × Int) := if a0.length ≤ 1000000 ∧ (a0.all fun x => decide (0 ≤ x ∧ x < 256)) = true then some ((dC a0).kind, (dC a0).chain, (dC a0).ep, (dC a0).node, dE a0) else none
theorem cmds_Decode.calls (A0 : Option Addr) (c0 : Nat) (l0 : List Int) (r1 : Int) (r2 : Int) (r3 : Int) (r4 : Int) (r5 : Int) (w : World) (hr0 : Kd.C (Kd.int .u8) w A0 l0.length l0) (hc0 : l0.length ≤ c0) (h : cmds_Decode.f l0 = some (r1, r2, r3, r4, r5)) :
    Calls Tryd.prog 16 #[.slice A0 l0.length c0] w fun e w' => e = .returned (.tuple #[.agg #[.int .i64 r1, .int .i64 r2, .int .u64 r3, .int .i64 r4], .int .i64 r5]) ∧ Below w.heap.size w w' := by
  unfold cmds_Decode.f at h
  by_cases hc : l0.length ≤ 1000000 ∧ (l0.all fun x => decide (0 ≤ x ∧ x < 256)) = true
  · rw [if_pos hc] at h
    have h2 := Option.some.inj h
    simp only [Prod.mk.injEq] at h2
    obtain ⟨rfl, rfl, rfl, rfl, rfl⟩ := h2
    exact decode_any _ l0 w (slw_of_C hr0 hc0) hc.1 (fun x hx => by simpa using List.all_eq_true.1 hc.2 x hx)
  · rw [if_neg hc] at h
    cases h
end Go.Proofs.YtlpkandfmbnlnaaDoor.C
