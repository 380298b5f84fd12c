/- A region that draws its order: heads that only read, one operation that makes a new block and may come anywhere among them, then a tail in one order. Beside Derived/StillTail.lean. Commands out of bytes: the chapter's Get and Decode. -/
import Derived.StillTail
import Derived.StillTactics
import Derived.Test.YtlpkandfmbnlnaaDoorCmdsD
set_option linter.unusedVariables false
set_option linter.unusedSimpArgs false
set_option maxRecDepth 100000
namespace Go.Proofs.YtlpkandfmbnlnaaDoor.StillA
open Go

section
variable {P : Program} {ops : Array Oper} {md : Region.Mode} {W W1 : World} {k n : Nat} {ok : Oper} {vk : Value}

/-- The world by what is listed. -/
def wof (W W1 : World) (k : Nat) (listed : Array Bool) : World := if listed.getD k false = true then W1 else W
/-- What makes the block: whatever the frame, its value and the new world. -/
def Makes (P : Program) (ok : Oper) (vk : Value) (W W1 : World) : Prop := ok.guard = none ∧ ∀ a : Act, (execOp a.eval ok).run P W = .ok (.value vk) W1

def wpAnyK (P : Program) (md : Region.Mode) (ops : Array Oper) (W W1 : World) (n k : Nat) (ok : Oper) (vk : Value) (L : Array Bool → Act → Prop) : Nat → Array Bool → Act → Prop
  | 0, listed, a => L listed a
  | f + 1, listed, a =>
    Region.ready md ops listed ≠ [] ∧ ∀ i ∈ Region.ready md ops listed, i < n ∧
      (i = k → wpAnyK P md ops W W1 n k ok vk L f (listed.setIfInBounds k true) (a.put ok.dst vk)) ∧
      (i ≠ k → stOp P ops (wof W W1 k listed) i (wpAnyK P md ops W W1 n k ok vk L f (listed.setIfInBounds i true)) a)

theorem wof_set {i : Nat} {listed : Array Bool} (h : i ≠ k) : wof W W1 k (listed.setIfInBounds i true) = wof W W1 k listed := by
  unfold wof
  rw [getD_set_ne false h]
theorem wof_k {listed : Array Bool} (h : k < listed.size) : wof W W1 k (listed.setIfInBounds k true) = W1 := by
  unfold wof
  rw [if_pos (by simp [h])]
theorem wof_un {listed : Array Bool} (h : listed.getD k true = false) : wof W W1 k listed = W := by
  unfold wof
  rw [getD_both h, if_neg (by simp)]

theorem wpAny_of_headK {g : Nat} {L : Array Bool → Act → Prop} {Q' : Exit → Act → World → Prop} (hok : ops[k]? = some ok) (hk : Makes P ok vk W W1)
    (hL : ∀ listed a, L listed a → listed.getD k false = true ∧ wpAny P md ops Q' g listed a W1) :
    ∀ (f : Nat) (listed : Array Bool) (a : Act), listed.size = ops.size → wpAnyK P md ops W W1 n k ok vk L f listed a → wpAny P md ops Q' (f + g) listed a (wof W W1 k listed) := by
  intro f
  induction f with
  | zero =>
    intro listed a hsz h
    obtain ⟨h1, h2⟩ := hL _ _ h
    rw [Nat.zero_add]
    unfold wof
    rw [if_pos h1]
    exact h2
  | succ f IH =>
    intro listed a hsz h
    rw [show f + 1 + g = (f + g) + 1 by omega]
    refine ⟨fun h0 => absurd h0 h.1, fun i hi => ?_⟩
    obtain ⟨_, hA, hB⟩ := h.2 i hi
    by_cases hik : i = k
    · subst hik
      have hun := (mem_ready.1 hi).1
      have hlt : i < listed.size := by rw [hsz]; exact (Array.getElem?_eq_some_iff.1 hok).1
      have ih := IH _ _ (by simpa using hsz) (hA rfl)
      rw [wof_k hlt] at ih
      rw [wof_un hun]
      unfold wpOp
      simp only [hok]
      have hw : Region.wanted ok (yielded ops a.tmps) = true := by unfold Region.wanted; rw [hk.1]
      rw [if_pos hw]
      refine .inl ?_
      unfold Oper.wp
      rw [hk.2 a]
      exact ih
    · refine wpOp_of_stOp (fun a' h' => ?_) (hB hik)
      have := IH _ a' (by simpa using hsz) h'
      rwa [wof_set hik] at this

/-- The like of stOp_put, for whatever is kept. -/
theorem stOp_put2 {w : World} {oi : Oper} {v : Value} {j : Nat} {oj : Oper} (hj : ops[j]? = some oj) (hap : oi.apart ops oj = true) (hsj : ∀ cs b, oj.op ≠ .select cs b) {K : Act → Prop} {a : Act} {Y : Act → Prop}
    (hy : Y a) (keep : ∀ a, Y a → ∀ u, Y (a.put oj.dst u)) (h : stOp P ops w j K (a.put oi.dst v)) :
    stOp P ops w j (fun a' => Y a' ∧ K (a'.put oi.dst v)) a := by
  obtain ⟨h1, h2, h3⟩ := Oper.apart_spec hap
  unfold stOp at *
  simp only [hj] at *
  rw [wanted_put oj a oi.dst v h1] at h
  split
  · rename_i hw
    simp only [hw, if_true] at h
    unfold Oper.still at *
    rw [execOp_put oj hsj a oi.dst v h1] at h
    generalize (execOp a.eval oj).run P w = r at *
    cases r with
    | ok n w' =>
      cases n <;> simp only [Oper.stillUpon] at h ⊢
      case value u => exact ⟨h.1, keep a hy u, by rw [← Act.put_comm a v u h2]; exact h.2⟩
      case skip => exact ⟨h.1, keep a hy _, by rw [← Act.put_comm a v undef h2]; exact h.2⟩
      case enter f args => obtain ⟨hw', u, hc, hn⟩ := h; exact ⟨hw', u, hc, keep a hy u, by rw [← Act.put_comm a v u h2]; exact hn⟩
    | halt x w' => simp only [Oper.stillUpon] at h
  · rename_i hw
    simp only [hw] at h
    exact ⟨keep a hy _, by rw [← Act.put_comm a v undef h2]; exact h⟩

/-- In both worlds. -/
def Yields2 (P : Program) (ops : Array Oper) (W W1 : World) (o : Oper) (v : Value) (a : Act) : Prop := YieldsAt P ops W o v a ∧ YieldsAt P ops W1 o v a

theorem wpAnyK_first {i : Nat} {oi : Oper} {v : Value} {L : Array Bool → Act → Prop} (hok : ops[k]? = some ok) (hi : ops[i]? = some oi) (hsel : ∀ (j : Nat) (o : Oper) cs b, ops[j]? = some o → o.op ≠ .select cs b)
    (hs : Region.sinkB md ops n = true) (hc : Region.chainB md ops n = true) (hn : n < ops.size) (hin : i < n) (hik : i ≠ k)
    (hdone : ∀ listed a, L listed a → ∀ j ∈ Region.ready md ops listed, n ≤ j) :
    ∀ (f : Nat) (listed : Array Bool) (a : Act), HeadInv md ops n listed →
      (∀ j oj, ops[j]? = some oj → j ≠ i → listed.getD j true = false → (∀ e ∈ oj.after, Region.binds md e = true → e.on ≠ i) → oi.apart ops oj = true) →
      i ∈ Region.ready md ops listed → Yields2 P ops W W1 oi v a →
      wpAnyK P md ops W W1 n k ok vk L f (listed.setIfInBounds i true) (a.put oi.dst v) → wpAnyK P md ops W W1 n k ok vk L (f + 1) listed a := by
  have hyw : ∀ (listed : Array Bool) (a : Act), Yields2 P ops W W1 oi v a → YieldsAt P ops (wof W W1 k listed) oi v a := fun listed a h => by
    unfold wof
    split
    · exact h.2
    · exact h.1
  intro f
  induction f with
  | zero =>
    intro listed a inv _ hr hy H
    have hun := (mem_ready.1 hr).1
    refine ⟨fun h => (by rw [h] at hr; cases hr), fun j hj => ?_⟩
    have hjn : j < n := by
      rcases Nat.lt_or_ge j n with h | h
      · exact h
      · exact absurd hj (tail_waits hs hc hn inv _ i rfl hin hun j h)
    by_cases hji : j = i
    · subst hji
      exact ⟨hjn, fun e => absurd e hik, fun _ => (hyw listed a hy).stOp hi H⟩
    · have := hdone _ _ H j (ready_mono hj hji)
      omega
  | succ f ih =>
    intro listed a inv hfree hr hy H
    have hun := (mem_ready.1 hr).1
    refine ⟨fun h => (by rw [h] at hr; cases hr), fun j hj => ?_⟩
    have hjn : j < n := by
      rcases Nat.lt_or_ge j n with h | h
      · exact h
      · exact absurd hj (tail_waits hs hc hn inv _ i rfl hin hun j h)
    refine ⟨hjn, ?_⟩
    by_cases hji : j = i
    · subst hji
      exact ⟨fun e => absurd e hik, fun _ => (hyw listed a hy).stOp hi H⟩
    · obtain ⟨_, HA, HB⟩ := H.2 j (ready_mono hj hji)
      obtain ⟨hjun, oj, hoj, hall⟩ := mem_ready.1 hj
      have hnot : ∀ e ∈ oj.after, Region.binds md e = true → e.on ≠ i := fun e he hb heq => by
        have h1 := hall e he hb
        rw [heq, getD_both hun] at h1
        cases h1
      have hap := hfree j oj hoj hji hjun hnot
      obtain ⟨h1, h2, h3⟩ := Oper.apart_spec hap
      have keep : ∀ (a : Act), Yields2 P ops W W1 oi v a → ∀ u, Yields2 P ops W W1 oi v (a.put oj.dst u) := fun a hy u =>
        ⟨hy.1.of_same (execOp_put oi (fun cs b => hsel i oi cs b hi) a oj.dst u h3) (wanted_put oi a oj.dst u h3),
         hy.2.of_same (execOp_put oi (fun cs b => hsel i oi cs b hi) a oj.dst u h3) (wanted_put oi a oj.dst u h3)⟩
      have hfree' : ∀ m om, ops[m]? = some om → m ≠ i → (listed.setIfInBounds j true).getD m true = false →
          (∀ e ∈ om.after, Region.binds md e = true → e.on ≠ i) → oi.apart ops om = true := fun m om hm hmi hun hno => by
        refine hfree m om hm hmi ?_ hno
        by_cases hjm : j = m
        · subst hjm; exact hjun
        · rw [getD_set_ne true hjm] at hun; exact hun
      by_cases hjk : j = k
      · subst hjk
        refine ⟨fun _ => ?_, fun e => absurd rfl e⟩
        have hoo : oj = ok := Option.some.inj (hoj.symm.trans hok)
        subst hoo
        refine ih _ _ (inv.set hj hjn) hfree' (ready_mono hr (Ne.symm hji)) (keep a hy vk) ?_
        rw [Array.setIfInBounds_comm _ _ hji, ← Act.put_comm a v vk h2]
        exact HA rfl
      · refine ⟨fun e => absurd e hjk, fun _ => ?_⟩
        have hs2 := HB hjk
        rw [wof_set hik] at hs2
        have h4 := stOp_put2 hoj hap (fun cs b => hsel j oj cs b hoj) hy keep hs2
        refine stOp_mono (fun a' h5 => ih (listed.setIfInBounds j true) a' (inv.set hj hjn) hfree' (ready_mono hr (Ne.symm hji)) h5.1 ?_) h4
        rw [Array.setIfInBounds_comm _ _ hji]
        exact h5.2

/-- The heads, in the text's order, each alike in both worlds. -/
def wpStill2 (P : Program) (ops : Array Oper) (W W1 : World) (Q : Act → Prop) : List Oper → Act → Prop
  | [], a => Q a
  | o :: rest, a => ∃ v, Yields2 P ops W W1 o v a ∧ wpStill2 P ops W W1 Q rest (a.put o.dst v)

theorem wpAnyK_lex {g : Nat} {Lq : Act → Prop} (hok : ops[k]? = some ok) (hsel : Region.noSelect ops = true) (hs : Region.sinkB md ops (k + 1) = true) (hc : Region.chainB md ops (k + 1) = true) (hn : k + 1 < ops.size) :
    ∀ (l : List Oper) (j : Nat) (listed : Array Bool) (a : Act), (∀ i, i < l.length → l[i]? = ops[j + i]?) → j + l.length = k → HeadInv md ops (k + 1) listed →
    Region.lexHead md ops (g + 1) l.length j listed = true → wpStill2 P ops W W1 Lq l a →
    wpAnyK P md ops W W1 (k + 1) k ok vk (fun listed' a' => Region.seqB md ops g (k + 1) listed' = true ∧ listed'.getD k false = true ∧ ∃ a0, Lq a0 ∧ a' = a0.put ok.dst vk) (l.length + 1) listed a := by
  intro l
  induction l with
  | nil =>
    intro j listed a _ hk inv hB h
    have : j = k := by simpa using hk
    subst this
    have hB2 : Region.seqB md ops (g + 1) j listed = true := by simpa [Region.lexHead] using hB
    simp only [Region.seqB, Bool.and_eq_true, decide_eq_true_eq] at hB2
    have hlt : j < listed.size := by rw [inv.size]; exact (Array.getElem?_eq_some_iff.1 hok).1
    refine ⟨by rw [hB2.1]; simp, fun i hi => ?_⟩
    rw [hB2.1] at hi
    have hij : i = j := by simpa using hi
    subst hij
    exact ⟨by omega, fun _ => ⟨hB2.2, by simp [hlt], a, h, rfl⟩, fun e => absurd rfl e⟩
  | cons o l IH =>
    intro j listed a hl hk inv hB h
    have h0 : ops[j]? = some o := by simpa using (hl 0 (by simp)).symm
    simp only [List.length_cons, Region.lexHead, Bool.and_eq_true] at hB
    obtain ⟨⟨hr, hf⟩, hB'⟩ := hB
    have hkn : j < k := by simp only [List.length_cons] at hk; omega
    have hr' : j ∈ Region.ready md ops listed := by simpa using hr
    obtain ⟨v, hy, hK⟩ := h
    exact wpAnyK_first hok h0 (Region.noSelect_spec hsel) hs hc hn (by omega) (by omega) (fun listed' a' hL => seqB_ready hL.1) (l.length + 1) listed a inv (Region.free_spec h0 hf) hr' hy
      (IH (j + 1) _ _ (fun i hi => by have := hl (i + 1) (by simp; omega); simpa [Nat.add_assoc, Nat.add_comm 1 i] using this) (by simp only [List.length_cons] at hk; omega) (inv.set hr' (by omega)) hB' hK)

/-- The kernel's check of such a region. -/
def stillAB (md : Region.Mode) (ops : Array Oper) (k : Nat) : Bool :=
  Region.noSelect ops && decide (k + 1 < ops.size) && Region.sinkB md ops (k + 1) && Region.chainB md ops (k + 1) && Region.lexHead md ops (ops.size - k) k 0 (Array.replicate ops.size false)

theorem wp_still_alloc {id : Nat} {Q : Exit → Act → World → Prop} {a : Act} {w : World} {l : List Oper} (k : Nat) (hm : P.follows .mixedOrders = true) (hB : stillAB .any l.toArray k = true)
    (ok : Oper) (hok : l[k]? = some ok) (vk : Value) (W W1 : World) (hW : w.drew = W) (hmk : Makes P ok vk W W1)
    (h : wpStill2 P l.toArray W W1 (fun a' => wpList P l.toArray Q (l.drop (k + 1)) (a'.put ok.dst vk) W1) (l.take k) a) : (Code.region id l.toArray true).wp P Q a w := by
  simp only [stillAB, Bool.and_eq_true, decide_eq_true_eq] at hB
  obtain ⟨⟨⟨⟨hsel, hn⟩, hs⟩, hc⟩, hlex⟩ := hB
  have hn' : k + 1 < l.length := by simpa using hn
  have htl : (l.take k).length = k := by simp; omega
  have hdl : (l.drop (k + 1)).length = l.length - (k + 1) := by simp
  have inv0 : HeadInv .any l.toArray (k + 1) (Array.replicate l.toArray.size false) :=
    ⟨by simp, fun j oj _ hl => (by rw [getD_replicate_false] at hl; cases hl), fun t _ ht => getD_in (by simpa using ht) (getD_replicate_false _ _)⟩
  have hok' : l.toArray[k]? = some ok := by simpa using hok
  have hg : l.toArray.size - k = (l.length - (k + 1)) + 1 := by simp; omega
  rw [hg] at hlex
  have H := wpAnyK_lex (md := .any) (g := l.length - (k + 1)) (P := P) (W := W) (W1 := W1) (vk := vk) (Lq := fun a' => wpList P l.toArray Q (l.drop (k + 1)) (a'.put ok.dst vk) W1) hok' hsel hs hc hn (l.take k) 0 _ a (fun j hj => by
    have hj' : j < k := by rw [htl] at hj; exact hj
    simp [hj']) (by simpa using htl) inv0 (by rw [htl]; exact hlex) h
  refine wp_region_any hm ?_
  rw [htl] at H
  have H2 := wpAny_of_headK (g := l.length - (k + 1)) (Q' := Q) hok' hmk (fun listed a' hL => ⟨hL.2.1, by
    obtain ⟨hq, _, a0, ha0, rfl⟩ := hL
    have := wpAny_of_seq (P := P) (Q' := Q) (l.drop (k + 1)) (k + 1) listed (a0.put ok.dst vk) W1 (fun j => by simp) (by rw [hdl]; exact hq) ha0
    rwa [hdl] at this⟩) (k + 1) _ a (by simp) H
  have e1 : k + 1 + (l.length - (k + 1)) = l.toArray.size := by simp; omega
  rw [e1] at H2
  have e2 : wof W W1 k (Array.replicate l.toArray.size false) = W := by
    unfold wof
    rw [getD_replicate_false, if_neg (by simp)]
  rw [e2, ← hW] at H2
  exact H2

theorem step2_val {o : Oper} {rest : List Oper} {a : Act} {Q : Act → Prop} {v : Value} (h1 : (execOp a.eval o).run P W = .ok (.value v) W) (h2 : (execOp a.eval o).run P W1 = .ok (.value v) W1) (hw : o.guard = none)
    (h : wpStill2 P ops W W1 Q rest (a.put o.dst v)) : wpStill2 P ops W W1 Q (o :: rest) a := by
  have hw' : Region.wanted o (yielded ops a.tmps) = true := by unfold Region.wanted; rw [hw]
  exact ⟨v, ⟨.inl ⟨hw', .inl h1⟩, .inl ⟨hw', .inl h2⟩⟩, h⟩
theorem step2_call {o : Oper} {rest : List Oper} {a : Act} {Q : Act → Prop} {v : Value} {f : FuncId} {args : Array Value} (h1 : (execOp a.eval o).run P W = .ok (.enter f args) W) (h2 : (execOp a.eval o).run P W1 = .ok (.enter f args) W1) (hw : o.guard = none)
    (c1 : Calls P f args W fun e w'' => e = .returned v ∧ w'' = W) (c2 : Calls P f args W1 fun e w'' => e = .returned v ∧ w'' = W1)
    (h : wpStill2 P ops W W1 Q rest (a.put o.dst v)) : wpStill2 P ops W W1 Q (o :: rest) a := by
  have hw' : Region.wanted o (yielded ops a.tmps) = true := by unfold Region.wanted; rw [hw]
  exact ⟨v, ⟨.inl ⟨hw', .inr (.inr ⟨f, args, h1, c1⟩)⟩, .inl ⟨hw', .inr (.inr ⟨f, args, h2, c2⟩)⟩⟩, h⟩
theorem step2_nil {a : Act} {Q : Act → Prop} (h : Q a) : wpStill2 P ops W W1 Q [] a := h

end
end Go.Proofs.YtlpkandfmbnlnaaDoor.StillA

namespace Go.Proofs.YtlpkandfmbnlnaaDoor.Cmd
open Go Go.RowKit Go.Proofs.YtlpkandfmbnlnaaDoor.Mem Go.Proofs.YtlpkandfmbnlnaaDoor.Num Go.Proofs.YtlpkandfmbnlnaaDoor.Fix Go.Proofs.YtlpkandfmbnlnaaDoor.Ref Go.Proofs.YtlpkandfmbnlnaaDoor.StillA

/-- An In's block, stored into. -/
def setR (w : World) (B : Nat) (s : Value) (e : Int) : World := (w.setCell ⟨B, 0, none⟩ s).setCell ⟨B, 1, none⟩ (.int .i64 e)
theorem setR_blk {w : World} {B : Nat} {t : TypeId} {a b : Value} (h : Blk w B #[a, b] t) (s : Value) (e : Int) : Blk (setR w B s e) B #[s, .int .i64 e] t := (h.set 0 s).set 1 (.int .i64 e)
theorem setC_other {w : World} {B b : Nat} {cs : Array Value} {t : TypeId} (h : Blk w b cs t) (hne : b ≠ B) (c : C) : Blk (setC w B c) b cs t := (((h.other (a := ⟨B, 0, none⟩) hne _).other (a := ⟨B, 1, none⟩) hne _).other (a := ⟨B, 2, none⟩) hne _).other (a := ⟨B, 3, none⟩) hne _
theorem setR_other {w : World} {B b : Nat} {cs : Array Value} {t : TypeId} (h : Blk w b cs t) (hne : b ≠ B) (s : Value) (e : Int) : Blk (setR w B s e) b cs t := (h.other (a := ⟨B, 0, none⟩) hne _).other (a := ⟨B, 1, none⟩) hne _
theorem setC_below {w W : World} {B b : Nat} (h : Below b w W) (hB : b ≤ B) (c : C) : Below b w (setC W B c) :=
  (((h.setCell (p := ⟨B, 0, none⟩) hB _).setCell (p := ⟨B, 1, none⟩) hB _).setCell (p := ⟨B, 2, none⟩) hB _).setCell (p := ⟨B, 3, none⟩) hB _
theorem setR_below {w W : World} {B b : Nat} (h : Below b w W) (hB : b ≤ B) (s : Value) (e : Int) : Below b w (setR W B s e) := (h.setCell (p := ⟨B, 0, none⟩) hB _).setCell (p := ⟨B, 1, none⟩) hB _

theorem no_u8R {s : Value} {e : Int} (hs : ∀ x, s ≠ .int .u8 x) : ∀ (i : Nat) (x : Int), (#[s, .int .i64 e] : Array Value)[i]? ≠ some (Value.int .u8 x) := by
  intro i x
  match i with
  | 0 => simpa using hs x
  | 1 => simp
  | n + 2 => simp
theorem setR_rd {w : World} {A : Option Addr} {l : List Int} {B : Nat} {t : TypeId} {s s' : Value} {e : Int} (h : Rd w .u8 A l) (hB : Blk w B #[s, .int .i64 e] t) (hs : ∀ x, s ≠ .int .u8 x) (hs' : ∀ x, s' ≠ .int .u8 x) (e' : Int) : Rd (setR w B s' e') .u8 A l :=
  Rd.set_other (Rd.set_other h hB (no_u8R hs) 0 s') (hB.set 0 s') (no_u8R hs') 1 _
theorem setC_rd {w : World} {A : Option Addr} {l : List Int} {B : Nat} {t : TypeId} {K H E N : Int} (h : Rd w .u8 A l) (hB : Blk w B #[.int .i64 K, .int .i64 H, .int .u64 E, .int .i64 N] t) (c : C) : Rd (setC w B c) .u8 A l := by
  have b1 := hB.set 0 (.int .i64 c.kind)
  have b2 := b1.set 1 (.int .i64 c.chain)
  have b3 := b2.set 2 (.int .u64 c.ep)
  exact Rd.set_other (Rd.set_other (Rd.set_other (Rd.set_other h hB no_u8 0 (.int .i64 c.kind)) b1 no_u8 1 (.int .i64 c.chain)) b2 no_u8 2 (.int .u64 c.ep)) b3 no_u8 3 (.int .i64 c.node)

set_option maxHeartbeats 4000000 in
/-- The chapter's Get. -/
theorem rget_any (v : Value) (l : List Int) (err : Int) (w : World) (hI : RIn w v l err) (hl : l.length ≤ 1000000) (hb : Bytes l) :
    Calls Tryd.prog 51 #[v] w fun e w' => ∃ u, e = .returned (.tuple #[u, (gC l err).v, .int .i64 (gE l err)]) ∧ RIn w' u (nL l err 11) (nE l err 11) ∧ Below w.heap.size w w' := by
  obtain ⟨A, c, rfl, hc, hr, hn⟩ := hI
  have HR := fun W h => Lib.hid (rraw_any (.agg #[.slice A l.length c, .int .i64 err]) l err 11 W h hl (by decide) (by decide))
  have hRR := HR (((w.alloc (.cells #[.slice A l.length c, .int .i64 err] 72)).alloc (.cells #[.slice none 0 0, .int .i64 0] 72)).alloc (.cells #[.int .i64 0, .int .i64 0, .int .u64 0, .int .i64 0] 24)) ⟨A, c, rfl, hc, ((hr.alloc _).alloc _).alloc _, hn⟩
  have hk1 := (Blk.new (w.alloc (.cells #[.slice A l.length c, .int .i64 err] 72)) #[.slice none 0 0, .int .i64 0] 72).alloc (.cells #[.int .i64 0, .int .i64 0, .int .u64 0, .int .i64 0] 24)
  rw [World.size_alloc] at hk1
  have hk2 := Blk.new ((w.alloc (.cells #[.slice A l.length c, .int .i64 err] 72)).alloc (.cells #[.slice none 0 0, .int .i64 0] 72)) #[.int .i64 0, .int .i64 0, .int .u64 0, .int .i64 0] 24
  rw [World.size_alloc, World.size_alloc] at hk2
  have HK1 := Lib.hid hk1
  have HK2 := Lib.hid hk2
  have HBy := Lib.hid hb
  clear hk1 hk2 HR hr hn hb
  by_cases h0 : nE l err 11 = 0
  · have hnr : err = 0 ∧ 11 ≤ l.length := by
      unfold nE at h0
      split at h0
      · omega
      · split at h0
        · omega
        · omega
    have hb11 : nR l err 11 = l.take 11 := by unfold nR; rw [if_pos hnr]
    have hbl : (l.take 11).length = 11 := by simp; omega
    have hbb : Bytes (l.take 11) := HBy.out.take 11
    have hC : gC l err = if chk (ofB (l.take 11)) = 0 then ofB (l.take 11) else C.zero := by unfold gC; simp [h0]
    have hE : gE l err = if chk (ofB (l.take 11)) ≠ 0 then 4 else 0 := by unfold gE; rw [if_neg (by simp [h0])]
    rw [hb11] at hRR
    have HNE := Lib.hid h0
    rw [h0] at hRR
    have hof : ofB (l.take 11) = ⟨(l.take 11).getD 0 0, (l.take 11).getD 1 0, num (((l.take 11).drop 2).take 8), (l.take 11).getD 10 0⟩ := rfl
    have r0 := hbb.getD 0
    have r1 := hbb.getD 1
    have r10 := hbb.getD 10
    generalize hbe : l.take 11 = b at *
    have hlong := num_range ((b.drop 2).take 8) ((hbb.drop 2).take 8)
    have HC := fun W => Lib.hid (rcheck_any (ofB b) W (by rw [hof]; exact hlong.1))
    rw [hof] at HC hC hE
    generalize hx2 : num ((b.drop 2).take 8) = x2 at *
    generalize hx0 : b.getD 0 0 = x0 at *
    generalize hx1 : b.getD 1 0 = x1 at *
    generalize hx3 : b.getD 10 0 = x3 at *
    have wx0 : IntKind.i64.wrap x0 = x0 := i64_in _ (by omega) (by omega)
    have wx1 : IntKind.i64.wrap x1 = x1 := i64_in _ (by omega) (by omega)
    have wx3 : IntKind.i64.wrap x3 = x3 := i64_in _ (by omega) (by omega)
    generalize hcx : chk ⟨x0, x1, x2, x3⟩ = cx at *
    have HGC := Lib.hid hC
    have HGE := Lib.hid hE
    have HX2 := Lib.hid hx2
    have HX0 := Lib.hid hx0
    have HX1 := Lib.hid hx1
    have HX3 := Lib.hid hx3
    have HBB := Lib.hid hbb
    have HBL := Lib.hid hbl
    clear hcx hC hE h0 hx2 hx0 hx1 hx3 hbb hbl hb11 hnr hof hbe r0 r1 r10 hlong hl
    unfold C.v C.cells at HC
    simp only at HC
    generalize nL l err 11 = nl at *
    go_enter Tryd.func51, Tryd.ntmps51
    go_wp2_with fail
    refine hRR.out.mono ?_
    rintro e w1 ⟨u, s, rfl, h1, h2, h3⟩
    obtain ⟨A2, c2, rfl, hc2, hr2, hn2⟩ := h1
    obtain ⟨A3, c5, rfl, hc3, hr3, hn3⟩ := h2.look
    obtain ⟨bb, off, rfl, hblt, hcell⟩ := hr3 (by rw [HBL.out]; decide)
    have s0 := hcell 0 (by rw [HBL.out]; decide)
    have s1 := hcell 1 (by rw [HBL.out]; decide)
    have s3 := hcell 10 (by rw [HBL.out]; decide)
    rw [HX0.out, Nat.add_zero] at s0
    rw [HX1.out] at s1
    rw [HX3.out] at s3
    rw [HBL.out] at hc3
    have hc10 : (10 : Int) ≤ (c5 : Int) := by omega
    have hc2n : ¬ c5 = 2 := by omega
    rw [HBL.out]
    clear hcell hn3
    have hsl : ∀ W, Below w1.heap.size w1 W → Sl W .u8 (.slice (some ⟨bb, off + 2, none⟩) 8 (c5 - 2)) ((b.drop 2).take 8) := fun W hW => by
      have hd := (hr3.below hW).drop 2
      have := take_sl (n := 8) hd (by simp [HBL.out])
      exact ⟨some ⟨bb, off + 2, none⟩, c5 - 2, by simp [HBL.out], by simp; omega, this.rd, fun e => by cases e⟩
    have HNUM : Hid (∀ W, Below w1.heap.size w1 W → Calls Tryd.prog 82 #[.slice (some ⟨bb, off + 2, none⟩) 8 (c5 - 2)] W fun e w'' => e = .returned (.int .u64 x2) ∧ w'' = W) := Lib.hid fun W hW => by
      refine (rnum_any (.slice (some ⟨bb, off + 2, none⟩) 8 (c5 - 2)) ((b.drop 2).take 8) W (hsl W hW) ((HBB.out.drop 2).take 8) (by simp; omega)).mono ?_
      rintro e w' ⟨rfl, rfl⟩
      rw [HX2.out]
      exact ⟨rfl, rfl⟩
    have HB := Lib.hid h3
    have hk1 := (HK1.out.below h3 (by simp)).alloc (.cells #[.slice A2 nl.length c2, .int .i64 0] 72)
    have hk2 := (HK2.out.below h3 (by simp)).alloc (.cells #[.slice A2 nl.length c2, .int .i64 0] 72)
    have HL1 := Lib.hid hk1
    have HL2 := Lib.hid hk2
    have HR2 := Lib.hid hr2
    have HN2 := Lib.hid hn2
    have hsz := h3.size
    simp only [World.size_alloc] at hsz
    have HSZ := Lib.hid hsz
    clear h2 h3 hk1 hk2 hr2 hn2 hsz hr3 hsl
    go_wp2_with fail
    obtain ⟨W2, hW2⟩ : ∃ W2, (w1.alloc (.cells #[.slice A2 nl.length c2, .int .i64 0] 72)).drew = W2 := ⟨_, rfl⟩
    have hbW2 : Below w1.heap.size w1 W2 := by rw [← hW2]; go_grown
    have HW2 := Lib.hid hW2
    have v0 : W2.cell? ⟨bb, off, none⟩ = some (.int .u8 x0) := (hbW2.cell (p := ⟨bb, off, none⟩) hblt).trans s0
    have v1 : W2.cell? ⟨bb, off + 1, none⟩ = some (.int .u8 x1) := (hbW2.cell (p := ⟨bb, off + 1, none⟩) hblt).trans s1
    have v3 : W2.cell? ⟨bb, off + 10, none⟩ = some (.int .u8 x3) := (hbW2.cell (p := ⟨bb, off + 10, none⟩) hblt).trans s3
    have hbb2 : bb < W2.heap.size := Nat.lt_of_lt_of_le hblt hbW2.size
    have HB2 := Lib.hid hbW2
    have hle : w1.heap.size ≤ W2.heap.size := hbW2.size
    clear hW2 hbW2 s0 s1 s3
    refine wp_still_alloc 16 (by kernel_rfl) (by kernel_rfl) _ rfl (.pointer (some ⟨W2.heap.size, 0, none⟩)) W2 (W2.alloc (.cells #[.int .i64 0, .int .i64 0, .int .u64 0, .int .i64 0] 24)) HW2.out ⟨rfl, fun a => by go_simp⟩ ?_
    simp only [List.take_succ_cons, List.take_zero, List.drop_succ_cons, List.drop_zero]
    refine step2_val (v := ?v1) ?ha1 ?hb1 rfl ?hc1
    case ha1 => (go_simp <;> rfl)
    case hb1 => (go_simp <;> rfl)
    refine step2_val (v := ?v2) ?ha2 ?hb2 rfl ?hc2
    case ha2 => (go_simp <;> rfl)
    case hb2 => (go_simp <;> rfl)
    refine step2_val (v := ?v3) ?ha3 ?hb3 rfl ?hc3
    case ha3 => (go_simp <;> rfl)
    case hb3 => (go_simp <;> rfl)
    refine step2_val (v := ?v4) ?ha4 ?hb4 rfl ?hc4
    case ha4 => (go_simp <;> rfl)
    case hb4 => (go_simp <;> rfl)
    refine step2_val (v := ?v5) ?ha5 ?hb5 rfl ?hc5
    case ha5 => (go_simp <;> rfl)
    case hb5 => (go_simp <;> rfl)
    refine step2_val (v := ?v6) ?ha6 ?hb6 rfl ?hc6
    case ha6 => (go_simp <;> rfl)
    case hb6 => (go_simp <;> rfl)
    refine step2_val (v := ?v7) ?ha7 ?hb7 rfl ?hc7
    case ha7 => (go_simp <;> rfl)
    case hb7 => (go_simp <;> rfl)
    refine step2_val (v := ?v8) ?ha8 ?hb8 rfl ?hc8
    case ha8 => (go_simp <;> rfl)
    case hb8 => (go_simp <;> rfl)
    refine step2_val (v := ?v9) ?ha9 ?hb9 rfl ?hc9
    case ha9 => (go_simp <;> rfl)
    case hb9 => (go_simp <;> rfl)
    refine step2_val (v := ?v10) ?ha10 ?hb10 rfl ?hc10
    case ha10 => (go_simp <;> rfl)
    case hb10 => (go_simp <;> rfl)
    refine step2_call (v := .int .u64 x2) (f := 82) (args := #[.slice (some ⟨bb, off + 2, none⟩) 8 (c5 - 2)]) (by first | (go_simp; done) | (go_simp; rfl)) (by first | (go_simp; done) | (go_simp; rfl)) rfl (HNUM.out W2 HB2.out) (HNUM.out _ (HB2.out.trans (by go_grown))) ?_
    refine step2_val (v := ?v11) ?ha11 ?hb11 rfl ?hc11
    case ha11 => (go_simp <;> rfl)
    case hb11 => (go_simp <;> rfl)
    refine step2_val (v := ?v12) ?ha12 ?hb12 rfl ?hc12
    case ha12 => (go_simp <;> rfl)
    case hb12 => (go_simp <;> rfl)
    refine step2_val (v := ?v13) ?ha13 ?hb13 rfl ?hc13
    case ha13 => (go_simp <;> rfl)
    case hb13 => (go_simp <;> rfl)
    refine step2_val (v := ?v14) ?ha14 ?hb14 rfl ?hc14
    case ha14 => (go_simp <;> rfl)
    case hb14 => (go_simp <;> rfl)
    refine step2_val (v := ?v15) ?ha15 ?hb15 rfl ?hc15
    case ha15 => (go_simp <;> rfl)
    case hb15 => (go_simp <;> rfl)
    refine step2_nil ?_
    go_wp2_with fail
    refine (HC _).out.mono ?_
    rintro e w'' ⟨rfl, hw''⟩
    have j1 : Blk W2 (w.heap.size + 1) #[.slice none 0 0, .int .i64 0] 72 := by rw [← HW2.out]; exact HL1.out.drew
    have j2 : Blk W2 (w.heap.size + 1 + 1) #[.int .i64 0, .int .i64 0, .int .u64 0, .int .i64 0] 24 := by rw [← HW2.out]; exact HL2.out.drew
    have j3 : Blk W2 w1.heap.size #[.slice A2 nl.length c2, .int .i64 0] 72 := by rw [← HW2.out]; exact (Blk.new w1 _ _).drew
    have j4 := (Blk.new W2 #[.int .i64 x0, .int .i64 x1, .int .u64 x2, .int .i64 x3] 24).alloc (.cells #[.int .i64 x0, .int .i64 x1, .int .u64 x2, .int .i64 x3] 24)
    have j1 := (j1.alloc (.cells #[.int .i64 x0, .int .i64 x1, .int .u64 x2, .int .i64 x3] 24)).alloc (.cells #[.int .i64 x0, .int .i64 x1, .int .u64 x2, .int .i64 x3] 24)
    have j2 := (j2.alloc (.cells #[.int .i64 x0, .int .i64 x1, .int .u64 x2, .int .i64 x3] 24)).alloc (.cells #[.int .i64 x0, .int .i64 x1, .int .u64 x2, .int .i64 x3] 24)
    have j3 := (j3.alloc (.cells #[.int .i64 x0, .int .i64 x1, .int .u64 x2, .int .i64 x3] 24)).alloc (.cells #[.int .i64 x0, .int .i64 x1, .int .u64 x2, .int .i64 x3] 24)
    have jr := HR2.out.below (((Below.refl w1.heap.size w1).trans HB2.out).trans (show Below w1.heap.size W2 ((W2.alloc (.cells #[.int .i64 x0, .int .i64 x1, .int .u64 x2, .int .i64 x3] 24)).alloc (.cells #[.int .i64 x0, .int .i64 x1, .int .u64 x2, .int .i64 x3] 24)) by go_grown))
    have jb : Below w.heap.size w ((W2.alloc (.cells #[.int .i64 x0, .int .i64 x1, .int .u64 x2, .int .i64 x3] 24)).alloc (.cells #[.int .i64 x0, .int .i64 x1, .int .u64 x2, .int .i64 x3] 24)) := by
      have b1 : Below w.heap.size w w1 := (show Below w.heap.size w (((w.alloc (.cells #[.slice A l.length c, .int .i64 err] 72)).alloc (.cells #[.slice none 0 0, .int .i64 0] 72)).alloc (.cells #[.int .i64 0, .int .i64 0, .int .u64 0, .int .i64 0] 24)) by go_grown).trans (HB.out.mono (by simp; omega))
      have b2 : Below w.heap.size w1 W2 := HB2.out.mono b1.size
      exact ((b1.trans b2).alloc (b1.trans b2).size _).alloc (by rw [World.size_alloc]; have := (b1.trans b2).size; omega) _
    rw [hw''] at j1 j2 j3 j4 jr jb
    have ne1 : ¬ (w1.heap.size = w.heap.size + 1) := by have := HSZ.out; omega
    have ne2 : ¬ (w1.heap.size = w.heap.size + 1 + 1) := by have := HSZ.out; omega
    have ne3 : ¬ (W2.heap.size = w.heap.size + 1) := by have := HSZ.out; omega
    have ne4 : ¬ (W2.heap.size = w.heap.size + 1 + 1) := by have := HSZ.out; omega
    have J1 := Lib.hid j1
    have J2 := Lib.hid j2
    have JR := Lib.hid jr
    have JB := Lib.hid jb
    have a0 := j1.cell (i := 0) (v := .slice none 0 0) rfl
    have a1 := j1.cell (i := 1) (v := .int .i64 0) rfl
    have y0 := j1.free 0
    have y1 := j1.free 1
    have d0 := j2.cell (i := 0) (v := .int .i64 0) rfl
    have d1 := j2.cell (i := 1) (v := .int .i64 0) rfl
    have d2 := j2.cell (i := 2) (v := .int .u64 0) rfl
    have d3 := j2.cell (i := 3) (v := .int .i64 0) rfl
    have z0 := j2.free 0
    have z1 := j2.free 1
    have z2 := j2.free 2
    have z3 := j2.free 3
    have e0 := j3.cell (i := 0) (v := .slice A2 nl.length c2) rfl
    have e1 := j3.cell (i := 1) (v := .int .i64 0) rfl
    have g0 := j4.cell (i := 0) (v := .int .i64 x0) rfl
    have g1 := j4.cell (i := 1) (v := .int .i64 x1) rfl
    have g2 := j4.cell (i := 2) (v := .int .u64 x2) rfl
    have g3 := j4.cell (i := 3) (v := .int .i64 x3) rfl
    clear j1 j2 j3 j4 jr jb v0 v1 v3 hw'' hle hbb2 hblt
    by_cases hcx : cx = 0
    · have hcb : (cx != 0) = false := by simp [hcx]
      have G1 := Lib.hid (HGC.out.trans (if_pos hcx))
      have G2 := Lib.hid (HGE.out.trans (if_neg (by simp [hcx])))
      clear HC HGC HGE hcx
      go_wp2_with fail
      go_region
      all_goals (
        go_wp2_with fail
        have q1 := setC_other (setR_blk J1.out (.slice A2 nl.length c2) 0) (B := w.heap.size + 1 + 1) (by omega) ⟨x0, x1, x2, x3⟩
        have q2 := setC_blk (setR_other J2.out (B := w.heap.size + 1) (by omega) (.slice A2 nl.length c2) 0) ⟨x0, x1, x2, x3⟩
        have qb := setC_below (setR_below JB.out (B := w.heap.size + 1) (by omega) (.slice A2 nl.length c2) 0) (B := w.heap.size + 1 + 1) (by omega) ⟨x0, x1, x2, x3⟩
        have r0 := q1.cell (i := 0) (v := .slice A2 nl.length c2) rfl
        have r1 := q1.cell (i := 1) (v := .int .i64 0) rfl
        have t0 := q2.cell (i := 0) (v := .int .i64 x0) rfl
        have t1 := q2.cell (i := 1) (v := .int .i64 x1) rfl
        have t2 := q2.cell (i := 2) (v := .int .u64 x2) rfl
        have t3 := q2.cell (i := 3) (v := .int .i64 x3) rfl
        unfold setC setR at r0 r1 t0 t1 t2 t3 qb
        simp only at r0 r1 t0 t1 t2 t3 qb
        refine bodyPost_ret (v := .tuple #[.agg #[.slice A2 nl.length c2, .int .i64 0], .agg #[.int .i64 x0, .int .i64 x1, .int .u64 x2, .int .i64 x3], .int .i64 0]) (by simp [results, Tryd.results51, go_sem, r0, r1, t0, t1, t2, t3]) rfl ?_
        rw [G1.out, G2.out, HNE.out]
        have q0 := setR_rd (s := .slice none 0 0) (e := 0) (s' := .slice A2 nl.length c2) JR.out J1.out (fun x h => by cases h) (fun x h => by cases h) 0
        have qr := setC_rd q0 (setR_other J2.out (B := w.heap.size + 1) (by omega) (.slice A2 nl.length c2) 0) ⟨x0, x1, x2, x3⟩
        unfold setC setR at qr
        simp only at qr
        exact ⟨_, rfl, ⟨A2, c2, rfl, hc2, qr.grown (grown_drew _ none) (by simp), HN2.out⟩, qb.drew⟩)
    · have hcb : (cx != 0) = true := by simp [hcx]
      have G1 := Lib.hid (HGC.out.trans (if_neg hcx))
      have G2 := Lib.hid (HGE.out.trans (if_pos hcx))
      clear HC HGC HGE hcx
      go_wp2_with fail
      have q1 := setC_other (setR_blk J1.out (.slice A2 nl.length c2) 0) (B := w.heap.size + 1 + 1) (by omega) C.zero
      have q2 := setC_blk (setR_other J2.out (B := w.heap.size + 1) (by omega) (.slice A2 nl.length c2) 0) C.zero
      have qb := setC_below (setR_below JB.out (B := w.heap.size + 1) (by omega) (.slice A2 nl.length c2) 0) (B := w.heap.size + 1 + 1) (by omega) C.zero
      have r0 := q1.cell (i := 0) (v := .slice A2 nl.length c2) rfl
      have r1 := q1.cell (i := 1) (v := .int .i64 0) rfl
      have t0 := q2.cell (i := 0) (v := .int .i64 0) rfl
      have t1 := q2.cell (i := 1) (v := .int .i64 0) rfl
      have t2 := q2.cell (i := 2) (v := .int .u64 0) rfl
      have t3 := q2.cell (i := 3) (v := .int .i64 0) rfl
      unfold setC setR at r0 r1 t0 t1 t2 t3 qb
      unfold C.zero at r0 r1 t0 t1 t2 t3 qb
      refine bodyPost_ret (v := .tuple #[.agg #[.slice A2 nl.length c2, .int .i64 0], .agg #[.int .i64 0, .int .i64 0, .int .u64 0, .int .i64 0], .int .i64 4]) (by simp [results, Tryd.results51, go_sem, r0, r1, t0, t1, t2, t3]) rfl ?_
      rw [G1.out, G2.out, HNE.out]
      have q0 := setR_rd (s := .slice none 0 0) (e := 0) (s' := .slice A2 nl.length c2) JR.out J1.out (fun x h => by cases h) (fun x h => by cases h) 0
      have qr := setC_rd q0 (setR_other J2.out (B := w.heap.size + 1) (by omega) (.slice A2 nl.length c2) 0) C.zero
      unfold setC setR at qr
      unfold C.zero at qr
      exact ⟨_, rfl, ⟨A2, c2, rfl, hc2, qr, HN2.out⟩, qb⟩
  · have HG1 := Lib.hid (show gC l err = C.zero by unfold gC; simp [h0])
    have HG2 := Lib.hid (show gE l err = nE l err 11 by unfold gE; rw [if_pos h0])
    have hb1 : (nE l err 11 != 0) = true := by simp [h0]
    clear h0
    generalize nE l err 11 = en at *
    generalize nL l err 11 = nl at *
    generalize nR l err 11 = nr at *
    go_enter Tryd.func51, Tryd.ntmps51
    go_wp2_with fail
    refine hRR.out.mono ?_
    rintro e w1 ⟨u, s, rfl, h1, h2, h3⟩
    obtain ⟨A2, c2, rfl, hc2, hr2, hn2⟩ := h1
    have HB := Lib.hid h3
    have hk1 := (HK1.out.below h3 (by simp)).alloc (.cells #[.slice A2 nl.length c2, .int .i64 en] 72)
    have hk2 := (HK2.out.below h3 (by simp)).alloc (.cells #[.slice A2 nl.length c2, .int .i64 en] 72)
    have HL1 := Lib.hid hk1
    have HL2 := Lib.hid hk2
    have a0 := hk1.cell (i := 0) (v := .slice none 0 0) rfl
    have a1 := hk1.cell (i := 1) (v := .int .i64 0) rfl
    have y0 := hk1.free 0
    have y1 := hk1.free 1
    have c0 := hk2.cell (i := 0) (v := .int .i64 0) rfl
    have c1 := hk2.cell (i := 1) (v := .int .i64 0) rfl
    have c2' := hk2.cell (i := 2) (v := .int .u64 0) rfl
    have c3 := hk2.cell (i := 3) (v := .int .i64 0) rfl
    have z0 := hk2.free 0
    have z1 := hk2.free 1
    have z2 := hk2.free 2
    have z3 := hk2.free 3
    have HR2 := Lib.hid hr2
    have HN2 := Lib.hid hn2
    have hsz := h3.size
    simp only [World.size_alloc] at hsz
    have ne1 : ¬ (w1.heap.size = w.heap.size + 1) := by omega
    have ne2 : ¬ (w1.heap.size = w.heap.size + 1 + 1) := by omega
    have HSZ := Lib.hid hsz
    clear h2 h3 hk1 hk2 hr2 hn2 hsz
    go_wp2_with fail
    go_region
    all_goals (
      go_wp2_with fail
      have q1 := setC_other (setR_blk HL1.out (.slice A2 nl.length c2) en) (B := w.heap.size + 1 + 1) (by omega) C.zero
      have q2 := setC_blk (setR_other HL2.out (B := w.heap.size + 1) (by omega) (.slice A2 nl.length c2) en) C.zero
      have qb : Below w.heap.size w (setC (setR (w1.alloc (.cells #[.slice A2 nl.length c2, .int .i64 en] 72)) (w.heap.size + 1) (.slice A2 nl.length c2) en) (w.heap.size + 1 + 1) C.zero) := setC_below (setR_below ((show Below w.heap.size w w1 from (show Below w.heap.size w (((w.alloc (.cells #[.slice A l.length c, .int .i64 err] 72)).alloc (.cells #[.slice none 0 0, .int .i64 0] 72)).alloc (.cells #[.int .i64 0, .int .i64 0, .int .u64 0, .int .i64 0] 24)) by go_grown).trans (HB.out.mono (by simp; omega))).alloc (by have := HSZ.out; omega) _) (by omega) _ _) (by omega) _
      have r0 := q1.cell (i := 0) (v := .slice A2 nl.length c2) rfl
      have r1 := q1.cell (i := 1) (v := .int .i64 en) rfl
      have t0 := q2.cell (i := 0) (v := .int .i64 0) rfl
      have t1 := q2.cell (i := 1) (v := .int .i64 0) rfl
      have t2 := q2.cell (i := 2) (v := .int .u64 0) rfl
      have t3 := q2.cell (i := 3) (v := .int .i64 0) rfl
      unfold setC setR C.zero at r0 r1 t0 t1 t2 t3 qb
      refine bodyPost_ret (v := .tuple #[.agg #[.slice A2 nl.length c2, .int .i64 en], .agg #[.int .i64 0, .int .i64 0, .int .u64 0, .int .i64 0], .int .i64 en]) (by simp [results, Tryd.results51, go_sem, r0, r1, t0, t1, t2, t3]) rfl ?_
      rw [HG1.out, HG2.out]
      have q0 := setR_rd (s := .slice none 0 0) (e := 0) (s' := .slice A2 nl.length c2) (HR2.out.alloc (.cells #[.slice A2 nl.length c2, .int .i64 en] 72)) HL1.out (fun x h => by cases h) (fun x h => by cases h) en
      have qr := setC_rd q0 (setR_other HL2.out (B := w.heap.size + 1) (by omega) (.slice A2 nl.length c2) en) C.zero
      unfold setC setR C.zero at qr
      exact ⟨_, rfl, ⟨A2, c2, rfl, hc2, qr.grown (grown_drew _ none) (by simp), HN2.out⟩, qb.drew⟩)

set_option maxHeartbeats 2000000 in
theorem rdecode_any (v : Value) (l : List Int) (w : World) (hs : Slw w v l) (hl : l.length ≤ 1000000) (hb : Bytes l) :
    Calls Tryd.prog 22 #[v] w fun e w' => e = .returned (.tuple #[(dC l).v, .int .i64 (dE l)]) ∧ Below w.heap.size w w' := by
  obtain ⟨A, c, rfl, hc, hr, hn⟩ : ∃ A c, v = .slice A l.length c ∧ l.length ≤ c ∧ Rd w .u8 A l ∧ (A = none → l = []) := by
    rcases hs with hs | ⟨c, rfl, rfl⟩
    · obtain ⟨A, c, h1, h2, h3, h4⟩ := hs.look
      exact ⟨A, c, h1, h2, h3, fun e => (h4 e).2⟩
    · exact ⟨none, c, rfl, Nat.zero_le _, Rd.nil _ _ _, fun _ => rfl⟩
  have HG := Lib.hid (rget_any (.agg #[.slice A l.length c, .int .i64 0]) l 0 (w.alloc (.cells #[.int .i64 0, .int .i64 0, .int .u64 0, .int .i64 0] 24)) ⟨A, c, rfl, hc, hr.alloc _, hn⟩ hl hb)
  have hk := Blk.new w #[.int .i64 0, .int .i64 0, .int .u64 0, .int .i64 0] 24
  have HK := Lib.hid hk
  clear hs hl hb hk hr hn
  have hlen := nL_len l
  have HLen := Lib.hid hlen
  clear hlen
  have HdC : Hid (dC l = if gE l 0 = 0 ∧ l.length = 11 then gC l 0 else C.zero) := Lib.hid rfl
  have HdE : Hid (dE l = if gE l 0 ≠ 0 then gE l 0 else if l.length = 11 then 0 else 4) := Lib.hid rfl
  generalize hge : gE l 0 = ge at *
  clear hge
  generalize hdc : dC l = dc at *
  clear hdc
  generalize hde : dE l = de at *
  clear hde
  generalize hgc : gC l 0 = gc at *
  clear hgc
  generalize hnl : nL l 0 11 = nl at *
  clear hnl
  generalize hne : nE l 0 11 = ne at *
  clear hne
  obtain ⟨x0, x1, x2, x3⟩ := gc
  unfold C.v at HG
  simp only at HG
  go_enter Tryd.func22, Tryd.ntmps22
  go_wp2_with fail
  refine HG.out.mono ?_
  rintro e w1 ⟨u, rfl, h1, h2⟩
  obtain ⟨A2, c2, rfl, hc2, hr2, hn2⟩ := h1
  clear hc2 hr2 hn2
  generalize nl.length = n at *
  have hk1 := ((HK.out.below h2 (by simp)).alloc (.cells #[.slice A2 n c2, .int .i64 ne] 72)).alloc (.cells #[.int .i64 x0, .int .i64 x1, .int .u64 x2, .int .i64 x3] 24)
  have hj := (Blk.new w1 #[.slice A2 n c2, .int .i64 ne] 72).alloc (.cells #[.int .i64 x0, .int .i64 x1, .int .u64 x2, .int .i64 x3] 24)
  have hm := Blk.new (w1.alloc (.cells #[.slice A2 n c2, .int .i64 ne] 72)) #[.int .i64 x0, .int .i64 x1, .int .u64 x2, .int .i64 x3] 24
  rw [World.size_alloc] at hm
  have hb1 : Below w.heap.size w w1 := (show Below w.heap.size w (w.alloc (.cells #[.int .i64 0, .int .i64 0, .int .u64 0, .int .i64 0] 24)) by go_grown).trans (h2.mono (by simp))
  have hb3 : Below w.heap.size w ((w1.alloc (.cells #[.slice A2 n c2, .int .i64 ne] 72)).alloc (.cells #[.int .i64 x0, .int .i64 x1, .int .u64 x2, .int .i64 x3] 24)) := (hb1.alloc hb1.size _).alloc (by rw [World.size_alloc]; have := hb1.size; omega) _
  have HK1 := Lib.hid hk1
  have HB3 := Lib.hid hb3
  have c0 := hk1.cell (i := 0) (v := .int .i64 0) rfl
  have c1 := hk1.cell (i := 1) (v := .int .i64 0) rfl
  have c2' := hk1.cell (i := 2) (v := .int .u64 0) rfl
  have c3 := hk1.cell (i := 3) (v := .int .i64 0) rfl
  have z0 := hk1.free 0
  have z1 := hk1.free 1
  have z2 := hk1.free 2
  have z3 := hk1.free 3
  have e0 := hj.cell (i := 0) (v := .slice A2 n c2) rfl
  have g0 := hm.cell (i := 0) (v := .int .i64 x0) rfl
  have g1 := hm.cell (i := 1) (v := .int .i64 x1) rfl
  have g2 := hm.cell (i := 2) (v := .int .u64 x2) rfl
  have g3 := hm.cell (i := 3) (v := .int .i64 x3) rfl
  have fin : ∀ c : C, Below w.heap.size w (setC ((w1.alloc (.cells #[.slice A2 n c2, .int .i64 ne] 72)).alloc (.cells #[.int .i64 x0, .int .i64 x1, .int .u64 x2, .int .i64 x3] 24)) w.heap.size c) := fun c => setC_below HB3.out (Nat.le_refl _) c
  have FIN := Lib.hid fin
  have RB := fun c => Lib.hid (setC_blk HK1.out c)
  clear fin hk1 hj hm hb1 hb3 h2
  have rz0 := (RB C.zero).out.cell (i := 0) (v := .int .i64 0) rfl
  have rz1 := (RB C.zero).out.cell (i := 1) (v := .int .i64 0) rfl
  have rz2 := (RB C.zero).out.cell (i := 2) (v := .int .u64 0) rfl
  have rz3 := (RB C.zero).out.cell (i := 3) (v := .int .i64 0) rfl
  have rx0 := (RB ⟨x0, x1, x2, x3⟩).out.cell (i := 0) (v := .int .i64 x0) rfl
  have rx1 := (RB ⟨x0, x1, x2, x3⟩).out.cell (i := 1) (v := .int .i64 x1) rfl
  have rx2 := (RB ⟨x0, x1, x2, x3⟩).out.cell (i := 2) (v := .int .u64 x2) rfl
  have rx3 := (RB ⟨x0, x1, x2, x3⟩).out.cell (i := 3) (v := .int .i64 x3) rfl
  unfold setC at rz0 rz1 rz2 rz3 rx0 rx1 rx2 rx3
  unfold C.zero at rz0 rz1 rz2 rz3
  have RZ := Lib.hid (And.intro rz0 (And.intro rz1 (And.intro rz2 rz3)))
  have RX := Lib.hid (And.intro rx0 (And.intro rx1 (And.intro rx2 rx3)))
  clear rz0 rz1 rz2 rz3 rx0 rx1 rx2 rx3
  by_cases hg : ge = 0
  · obtain ⟨l1, l2⟩ := HLen.out hg
    by_cases h11 : l.length = 11
    · have D1 := Lib.hid (HdC.out.trans (if_pos ⟨hg, h11⟩))
      have D2 := Lib.hid (HdE.out.trans ((if_neg (by simp [hg])).trans (if_pos h11)))
      have hnl : n = 0 := by omega
      have hd : decide ((0 : Int) < (n : Int)) = false := by rw [decide_eq_false_iff_not]; omega
      have hd2 : decide (0 < n) = false := by rw [decide_eq_false_iff_not]; omega
      clear hnl
      subst hg
      clear l1 l2 h11
      go_wp2_with fail
      refine bodyPost_ret (v := .tuple #[.agg #[.int .i64 x0, .int .i64 x1, .int .u64 x2, .int .i64 x3], .int .i64 0]) (by simp [results, Tryd.results22, go_sem, RX.out.1, RX.out.2.1, RX.out.2.2.1, RX.out.2.2.2]) rfl ?_
      rw [D1.out, D2.out]
      exact ⟨rfl, FIN.out ⟨x0, x1, x2, x3⟩⟩
    · have D1 := Lib.hid (HdC.out.trans (if_neg (fun h => h11 h.2)))
      have D2 := Lib.hid (HdE.out.trans ((if_neg (by simp [hg])).trans (if_neg h11)))
      have hnl : 0 < n := by omega
      have hd : decide ((0 : Int) < (n : Int)) = true := by rw [decide_eq_true_iff]; omega
      have hd2 : decide (0 < n) = true := by rw [decide_eq_true_iff]; omega
      clear hnl
      subst hg
      clear l1 l2 h11
      go_wp2_with fail
      refine bodyPost_ret (v := .tuple #[.agg #[.int .i64 0, .int .i64 0, .int .u64 0, .int .i64 0], .int .i64 4]) (by simp [results, Tryd.results22, go_sem, RZ.out.1, RZ.out.2.1, RZ.out.2.2.1, RZ.out.2.2.2]) rfl ?_
      rw [D1.out, D2.out]
      exact ⟨rfl, FIN.out C.zero⟩
  · have D1 := Lib.hid (HdC.out.trans (if_neg (fun h => hg h.1)))
    have D2 := Lib.hid (HdE.out.trans (if_pos hg))
    have hb1 : (ge != 0) = true := by simp [hg]
    clear hg
    go_wp2_with fail
    refine bodyPost_ret (v := .tuple #[.agg #[.int .i64 0, .int .i64 0, .int .u64 0, .int .i64 0], .int .i64 ge]) (by simp [results, Tryd.results22, go_sem, RZ.out.1, RZ.out.2.1, RZ.out.2.2.1, RZ.out.2.2.2]) rfl ?_
    rw [D1.out, D2.out]
    exact ⟨rfl, FIN.out C.zero⟩
end Go.Proofs.YtlpkandfmbnlnaaDoor.Cmd
