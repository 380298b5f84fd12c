/-
  DERIVED. GIVEN WITH THE SEED: THE CARDS: each row of YtlpkandfmbnlnaaDoorRows.lean that lists a variable, with what it lists TIED to the program's text (the seventh form; the later family's looks); each row that meets fmt, with fmt's text TOLD by the authors' own Lean function (tested against real Go, not proved from fmt's source: count such statements apart). THE CARD IS WHAT COUNTS. Prove the row's statement (the work); the ties are given (YtlpkandfmbnlnaaDoorTie.lean); close each card by the builder's one call (the guide's Derived/Test/ToyasCard.lean, 'card_holds'). Laid BY PROGRAM, IN A SANDBOX (cutbox-door.mjs). By AI agents, Wed Nov 11 2026. No macro, syntax, notation, axiom, sorry.
-/
import Derived.Test.YtlpkandfmbnlnaaDoorRows
import GoSem.ClaimSeven
namespace Go.Proofs.YtlpkandfmbnlnaaDoor
namespace Rows

/-- THE TIED CARD OF 'catenarylaw08.CmdsChecks'. -/
def cmdsChecksCard : Claim7 := { stood := { row := cmdsChecksRow, standIns := [], harness := (true, "59f7a8cca8ac95783674b1d05172c8559dcbe0306589a5be17313f7cfedf46e0"), looks := true }, kinds := [], alts := [], laidByText := true, laidKinds := [.data, .data, .data, .data, .sentinel, .sentinel, .data, .pinned], laidTests := true, laidLooks := .later }
def CmdsChecksCardSaid : Prop := Claim7.holds Tryd.pinned (.plain (OpenSpec.ofChange cmdsChecksSpec)) cmdsChecksCard

/-- THE TIED CARD OF 'catenarylaw08.CmdsDecodes'. -/
def cmdsDecodesCard : Claim7 := { stood := { row := cmdsDecodesRow, standIns := [], harness := (true, "59f7a8cca8ac95783674b1d05172c8559dcbe0306589a5be17313f7cfedf46e0"), looks := true }, kinds := [], alts := [], laidByText := true, laidKinds := [.data, .data, .data, .data, .sentinel, .sentinel, .data, .pinned], laidTests := true, laidLooks := .later }
def CmdsDecodesCardSaid : Prop := Claim7.holds Tryd.pinned (.plain (OpenSpec.ofChange cmdsDecodesSpec)) cmdsDecodesCard

/-- THE TIED CARD OF 'catenarylaw09.ConfDoes'. -/
def confDoesCard : Claim7 := { stood := { row := confDoesRow, standIns := [], harness := (true, "59f7a8cca8ac95783674b1d05172c8559dcbe0306589a5be17313f7cfedf46e0"), looks := true }, kinds := [], alts := [], laidByText := true, laidKinds := [.data, .data, .data], laidTests := true, laidLooks := .later }
def ConfDoesCardSaid : Prop := Claim7.holds Tryd.pinned (.plain (OpenSpec.ofChange confDoesSpec)) confDoesCard

/-- THE TIED CARD OF 'catenarylaw09.ConfIs'. -/
def confIsCard : Claim7 := { stood := { row := confIsRow, standIns := [], harness := (true, "59f7a8cca8ac95783674b1d05172c8559dcbe0306589a5be17313f7cfedf46e0"), looks := true }, kinds := [], alts := [], laidByText := true, laidKinds := [.data, .data, .data], laidTests := true, laidLooks := .later }
def ConfIsCardSaid : Prop := Claim7.holds Tryd.pinned (.plain (OpenSpec.ofChange confIsSpec)) confIsCard

/-- THE TIED CARD OF 'catenarylaw08.CmdsParses'. -/
def cmdsParsesCard : Claim7 := { stood := { row := cmdsParsesRow, standIns := [], harness := (true, "59f7a8cca8ac95783674b1d05172c8559dcbe0306589a5be17313f7cfedf46e0"), looks := true }, kinds := [], alts := [], laidByText := true, laidKinds := [.data, .data, .data, .data, .sentinel, .sentinel, .data, .pinned], laidTests := true, laidLooks := .later }
def CmdsParsesCardSaid : Prop := Claim7.holds Tryd.pinned (.plain (OpenSpec.ofChange cmdsParsesSpec)) cmdsParsesCard

/-- THE TIED CARD OF 'catenarylaw08.CmdsGets'. -/
def cmdsGetsCard : Claim7 := { stood := { row := cmdsGetsRow, standIns := [], harness := (true, "59f7a8cca8ac95783674b1d05172c8559dcbe0306589a5be17313f7cfedf46e0"), looks := true }, kinds := [], alts := [], laidByText := true, laidKinds := [.data, .data, .data, .data, .sentinel, .sentinel, .data, .pinned], laidTests := true, laidLooks := .later }
def CmdsGetsCardSaid : Prop := Claim7.holds Tryd.pinned (.plain (OpenSpec.ofChange cmdsGetsSpec)) cmdsGetsCard

/-- THE SECOND FORM's CARD OF 'catenarylaw08.CmdsChecks'. -/
def cmdsChecksUptoCard : Claim7 := { stood := { row := cmdsChecksUptoRow, standIns := [], harness := (true, "59f7a8cca8ac95783674b1d05172c8559dcbe0306589a5be17313f7cfedf46e0"), looks := true }, kinds := [], alts := [], laidByText := true, laidKinds := [.data, .data, .data, .data, .sentinel, .sentinel, .data, .pinned], laidTests := true, laidLooks := .later }
def CmdsChecksUptoCardSaid : Prop := Claim7.holds Tryd.pinned (.plain (OpenSpec.upto cmdsChecksSpec)) cmdsChecksUptoCard

/-- THE SECOND FORM's CARD OF 'catenarylaw08.CmdsDecodes'. -/
def cmdsDecodesUptoCard : Claim7 := { stood := { row := cmdsDecodesUptoRow, standIns := [], harness := (true, "59f7a8cca8ac95783674b1d05172c8559dcbe0306589a5be17313f7cfedf46e0"), looks := true }, kinds := [], alts := [], laidByText := true, laidKinds := [.data, .data, .data, .data, .sentinel, .sentinel, .data, .pinned], laidTests := true, laidLooks := .later }
def CmdsDecodesUptoCardSaid : Prop := Claim7.holds Tryd.pinned (.plain (OpenSpec.upto cmdsDecodesSpec)) cmdsDecodesUptoCard

/-- THE SECOND FORM's CARD OF 'catenarylaw09.ConfDoes'. -/
def confDoesUptoCard : Claim7 := { stood := { row := confDoesUptoRow, standIns := [], harness := (true, "59f7a8cca8ac95783674b1d05172c8559dcbe0306589a5be17313f7cfedf46e0"), looks := true }, kinds := [], alts := [], laidByText := true, laidKinds := [.data, .data, .data], laidTests := true, laidLooks := .later }
def ConfDoesUptoCardSaid : Prop := Claim7.holds Tryd.pinned (.plain (OpenSpec.upto confDoesSpec)) confDoesUptoCard

/-- THE SECOND FORM's CARD OF 'catenarylaw09.ConfIs'. -/
def confIsUptoCard : Claim7 := { stood := { row := confIsUptoRow, standIns := [], harness := (true, "59f7a8cca8ac95783674b1d05172c8559dcbe0306589a5be17313f7cfedf46e0"), looks := true }, kinds := [], alts := [], laidByText := true, laidKinds := [.data, .data, .data], laidTests := true, laidLooks := .later }
def ConfIsUptoCardSaid : Prop := Claim7.holds Tryd.pinned (.plain (OpenSpec.upto confIsSpec)) confIsUptoCard

/-- THE SECOND FORM's CARD OF 'catenarylaw08.CmdsParses'. -/
def cmdsParsesUptoCard : Claim7 := { stood := { row := cmdsParsesUptoRow, standIns := [], harness := (true, "59f7a8cca8ac95783674b1d05172c8559dcbe0306589a5be17313f7cfedf46e0"), looks := true }, kinds := [], alts := [], laidByText := true, laidKinds := [.data, .data, .data, .data, .sentinel, .sentinel, .data, .pinned], laidTests := true, laidLooks := .later }
def CmdsParsesUptoCardSaid : Prop := Claim7.holds Tryd.pinned (.plain (OpenSpec.upto cmdsParsesSpec)) cmdsParsesUptoCard

/-- THE SECOND FORM's CARD OF 'catenarylaw08.CmdsGets'. -/
def cmdsGetsUptoCard : Claim7 := { stood := { row := cmdsGetsUptoRow, standIns := [], harness := (true, "59f7a8cca8ac95783674b1d05172c8559dcbe0306589a5be17313f7cfedf46e0"), looks := true }, kinds := [], alts := [], laidByText := true, laidKinds := [.data, .data, .data, .data, .sentinel, .sentinel, .data, .pinned], laidTests := true, laidLooks := .later }
def CmdsGetsUptoCardSaid : Prop := Claim7.holds Tryd.pinned (.plain (OpenSpec.upto cmdsGetsSpec)) cmdsGetsUptoCard
end Rows
end Go.Proofs.YtlpkandfmbnlnaaDoor
