/-
  DERIVED. GIVEN WITH THE SEED: THE CARDS: each row of YtckfdmkjeocadaaDoorRows.lean that lists a variable, with what it lists TIED to the program's text (the seventh form; the later family's looks); each row that meets fmt, with fmt's text TOLD by the authors' own Lean function (tested against real Go, not proved from fmt's source: count such statements apart). THE CARD IS WHAT COUNTS. Prove the row's statement (the work); the ties are given (YtckfdmkjeocadaaDoorTie.lean); close each card by the builder's one call (the guide's Derived/Test/ToyasCard.lean, 'card_holds'). Laid BY PROGRAM, IN A SANDBOX (cutbox-door.mjs). By AI agents, Wed Nov 11 2026. No macro, syntax, notation, axiom, sorry.
-/
import Derived.Test.YtckfdmkjeocadaaDoorRows
import GoSem.ClaimSeven
namespace Go.Proofs.YtckfdmkjeocadaaDoor
namespace Rows

/-- THE TIED CARD OF 'cavalcadelaw04.TxBack'. -/
def txBackCard : Claim7 := { stood := { row := txBackRow, standIns := [], harness := (true, "ca4c07091c5a0c92ebeba88d55f7cd475bcd1a620e5071ec5ccc9de92746a036"), looks := false }, kinds := [], alts := [], laidByText := true, laidKinds := [.data], laidTests := true, laidLooks := .later }
def TxBackCardSaid : Prop := Claim7.holds Tryd.pinned (.plain (OpenSpec.ofChange txBackSpec)) txBackCard

/-- THE TIED CARD OF 'cavalcadelaw04.TxLays'. -/
def txLaysCard : Claim7 := { stood := { row := txLaysRow, standIns := [], harness := (true, "ca4c07091c5a0c92ebeba88d55f7cd475bcd1a620e5071ec5ccc9de92746a036"), looks := false }, kinds := [], alts := [], laidByText := true, laidKinds := [.data], laidTests := true, laidLooks := .later }
def TxLaysCardSaid : Prop := Claim7.holds Tryd.pinned (.plain (OpenSpec.ofChange txLaysSpec)) txLaysCard

/-- THE TIED CARD OF 'cavalcadelaw04.TxSigns'. -/
def txSignsCard : Claim7 := { stood := { row := txSignsRow, standIns := [], harness := (true, "ca4c07091c5a0c92ebeba88d55f7cd475bcd1a620e5071ec5ccc9de92746a036"), looks := false }, kinds := [], alts := [], laidByText := true, laidKinds := [.data], laidTests := true, laidLooks := .later }
def TxSignsCardSaid : Prop := Claim7.holds Tryd.pinned (.plain (OpenSpec.ofChange txSignsSpec)) txSignsCard

/-- THE TIED CARD OF 'cavalcadelaw04.TxStays'. -/
def txStaysCard : Claim7 := { stood := { row := txStaysRow, standIns := [], harness := (true, "ca4c07091c5a0c92ebeba88d55f7cd475bcd1a620e5071ec5ccc9de92746a036"), looks := false }, kinds := [], alts := [], laidByText := true, laidKinds := [.data], laidTests := true, laidLooks := .later }
def TxStaysCardSaid : Prop := Claim7.holds Tryd.pinned (.plain (OpenSpec.ofChange txStaysSpec)) txStaysCard

/-- THE TIED CARD OF 'cavalcadelaw17.AdmitNames'. -/
def admitNamesCard : Claim7 := { stood := { row := admitNamesRow, standIns := [], harness := (true, "ca4c07091c5a0c92ebeba88d55f7cd475bcd1a620e5071ec5ccc9de92746a036"), looks := false }, kinds := [], alts := [], laidByText := true, laidKinds := [.data], laidTests := true, laidLooks := .later }
def AdmitNamesCardSaid : Prop := Claim7.holds Tryd.pinned (.plain (OpenSpec.ofChange admitNamesSpec)) admitNamesCard

/-- THE TIED CARD OF 'cavalcadelaw17.AdmitNone'. -/
def admitNoneCard : Claim7 := { stood := { row := admitNoneRow, standIns := [], harness := (true, "ca4c07091c5a0c92ebeba88d55f7cd475bcd1a620e5071ec5ccc9de92746a036"), looks := false }, kinds := [], alts := [], laidByText := true, laidKinds := [.data], laidTests := true, laidLooks := .later }
def AdmitNoneCardSaid : Prop := Claim7.holds Tryd.pinned (.plain (OpenSpec.ofChange admitNoneSpec)) admitNoneCard

/-- THE TIED CARD OF 'cavalcadelaw19.OrderChained'. -/
def orderChainedCard : Claim7 := { stood := { row := orderChainedRow, standIns := [], harness := (true, "ca4c07091c5a0c92ebeba88d55f7cd475bcd1a620e5071ec5ccc9de92746a036"), looks := false }, kinds := [], alts := [], laidByText := true, laidKinds := [.data], laidTests := true, laidLooks := .later }
def OrderChainedCardSaid : Prop := Claim7.holds Tryd.pinned (.plain (OpenSpec.ofChange orderChainedSpec)) orderChainedCard

/-- THE TIED CARD OF 'cavalcadelaw19.OrderLoads'. -/
def orderLoadsCard : Claim7 := { stood := { row := orderLoadsRow, standIns := [], harness := (true, "ca4c07091c5a0c92ebeba88d55f7cd475bcd1a620e5071ec5ccc9de92746a036"), looks := false }, kinds := [], alts := [], laidByText := true, laidKinds := [.data], laidTests := true, laidLooks := .later }
def OrderLoadsCardSaid : Prop := Claim7.holds Tryd.pinned (.plain (OpenSpec.ofChange orderLoadsSpec)) orderLoadsCard

/-- THE TIED CARD OF 'cavalcadelaw19.OrderDoes'. -/
def orderDoesCard : Claim7 := { stood := { row := orderDoesRow, standIns := [], harness := (true, "ca4c07091c5a0c92ebeba88d55f7cd475bcd1a620e5071ec5ccc9de92746a036"), looks := false }, kinds := [], alts := [], laidByText := true, laidKinds := [.data], laidTests := true, laidLooks := .later }
def OrderDoesCardSaid : Prop := Claim7.holds Tryd.pinned (.plain (OpenSpec.ofChange orderDoesSpec)) orderDoesCard

/-- THE TIED CARD OF 'cavalcadelaw19.OrderNone'. -/
def orderNoneCard : Claim7 := { stood := { row := orderNoneRow, standIns := [], harness := (true, "ca4c07091c5a0c92ebeba88d55f7cd475bcd1a620e5071ec5ccc9de92746a036"), looks := false }, kinds := [], alts := [], laidByText := true, laidKinds := [.data], laidTests := true, laidLooks := .later }
def OrderNoneCardSaid : Prop := Claim7.holds Tryd.pinned (.plain (OpenSpec.ofChange orderNoneSpec)) orderNoneCard

/-- THE SECOND FORM's CARD OF 'cavalcadelaw04.TxBack'. -/
def txBackUptoCard : Claim7 := { stood := { row := txBackUptoRow, standIns := [], harness := (true, "ca4c07091c5a0c92ebeba88d55f7cd475bcd1a620e5071ec5ccc9de92746a036"), looks := false }, kinds := [], alts := [], laidByText := true, laidKinds := [.data], laidTests := true, laidLooks := .later }
def TxBackUptoCardSaid : Prop := Claim7.holds Tryd.pinned (.plain (OpenSpec.upto txBackSpec)) txBackUptoCard

/-- THE SECOND FORM's CARD OF 'cavalcadelaw04.TxLays'. -/
def txLaysUptoCard : Claim7 := { stood := { row := txLaysUptoRow, standIns := [], harness := (true, "ca4c07091c5a0c92ebeba88d55f7cd475bcd1a620e5071ec5ccc9de92746a036"), looks := false }, kinds := [], alts := [], laidByText := true, laidKinds := [.data], laidTests := true, laidLooks := .later }
def TxLaysUptoCardSaid : Prop := Claim7.holds Tryd.pinned (.plain (OpenSpec.upto txLaysSpec)) txLaysUptoCard

/-- THE SECOND FORM's CARD OF 'cavalcadelaw04.TxSigns'. -/
def txSignsUptoCard : Claim7 := { stood := { row := txSignsUptoRow, standIns := [], harness := (true, "ca4c07091c5a0c92ebeba88d55f7cd475bcd1a620e5071ec5ccc9de92746a036"), looks := false }, kinds := [], alts := [], laidByText := true, laidKinds := [.data], laidTests := true, laidLooks := .later }
def TxSignsUptoCardSaid : Prop := Claim7.holds Tryd.pinned (.plain (OpenSpec.upto txSignsSpec)) txSignsUptoCard

/-- THE SECOND FORM's CARD OF 'cavalcadelaw04.TxStays'. -/
def txStaysUptoCard : Claim7 := { stood := { row := txStaysUptoRow, standIns := [], harness := (true, "ca4c07091c5a0c92ebeba88d55f7cd475bcd1a620e5071ec5ccc9de92746a036"), looks := false }, kinds := [], alts := [], laidByText := true, laidKinds := [.data], laidTests := true, laidLooks := .later }
def TxStaysUptoCardSaid : Prop := Claim7.holds Tryd.pinned (.plain (OpenSpec.upto txStaysSpec)) txStaysUptoCard

/-- THE SECOND FORM's CARD OF 'cavalcadelaw17.AdmitNames'. -/
def admitNamesUptoCard : Claim7 := { stood := { row := admitNamesUptoRow, standIns := [], harness := (true, "ca4c07091c5a0c92ebeba88d55f7cd475bcd1a620e5071ec5ccc9de92746a036"), looks := false }, kinds := [], alts := [], laidByText := true, laidKinds := [.data], laidTests := true, laidLooks := .later }
def AdmitNamesUptoCardSaid : Prop := Claim7.holds Tryd.pinned (.plain (OpenSpec.upto admitNamesSpec)) admitNamesUptoCard

/-- THE SECOND FORM's CARD OF 'cavalcadelaw17.AdmitNone'. -/
def admitNoneUptoCard : Claim7 := { stood := { row := admitNoneUptoRow, standIns := [], harness := (true, "ca4c07091c5a0c92ebeba88d55f7cd475bcd1a620e5071ec5ccc9de92746a036"), looks := false }, kinds := [], alts := [], laidByText := true, laidKinds := [.data], laidTests := true, laidLooks := .later }
def AdmitNoneUptoCardSaid : Prop := Claim7.holds Tryd.pinned (.plain (OpenSpec.upto admitNoneSpec)) admitNoneUptoCard

/-- THE SECOND FORM's CARD OF 'cavalcadelaw19.OrderChained'. -/
def orderChainedUptoCard : Claim7 := { stood := { row := orderChainedUptoRow, standIns := [], harness := (true, "ca4c07091c5a0c92ebeba88d55f7cd475bcd1a620e5071ec5ccc9de92746a036"), looks := false }, kinds := [], alts := [], laidByText := true, laidKinds := [.data], laidTests := true, laidLooks := .later }
def OrderChainedUptoCardSaid : Prop := Claim7.holds Tryd.pinned (.plain (OpenSpec.upto orderChainedSpec)) orderChainedUptoCard

/-- THE SECOND FORM's CARD OF 'cavalcadelaw19.OrderLoads'. -/
def orderLoadsUptoCard : Claim7 := { stood := { row := orderLoadsUptoRow, standIns := [], harness := (true, "ca4c07091c5a0c92ebeba88d55f7cd475bcd1a620e5071ec5ccc9de92746a036"), looks := false }, kinds := [], alts := [], laidByText := true, laidKinds := [.data], laidTests := true, laidLooks := .later }
def OrderLoadsUptoCardSaid : Prop := Claim7.holds Tryd.pinned (.plain (OpenSpec.upto orderLoadsSpec)) orderLoadsUptoCard

/-- THE SECOND FORM's CARD OF 'cavalcadelaw19.OrderDoes'. -/
def orderDoesUptoCard : Claim7 := { stood := { row := orderDoesUptoRow, standIns := [], harness := (true, "ca4c07091c5a0c92ebeba88d55f7cd475bcd1a620e5071ec5ccc9de92746a036"), looks := false }, kinds := [], alts := [], laidByText := true, laidKinds := [.data], laidTests := true, laidLooks := .later }
def OrderDoesUptoCardSaid : Prop := Claim7.holds Tryd.pinned (.plain (OpenSpec.upto orderDoesSpec)) orderDoesUptoCard

/-- THE SECOND FORM's CARD OF 'cavalcadelaw19.OrderNone'. -/
def orderNoneUptoCard : Claim7 := { stood := { row := orderNoneUptoRow, standIns := [], harness := (true, "ca4c07091c5a0c92ebeba88d55f7cd475bcd1a620e5071ec5ccc9de92746a036"), looks := false }, kinds := [], alts := [], laidByText := true, laidKinds := [.data], laidTests := true, laidLooks := .later }
def OrderNoneUptoCardSaid : Prop := Claim7.holds Tryd.pinned (.plain (OpenSpec.upto orderNoneSpec)) orderNoneUptoCard
end Rows
end Go.Proofs.YtckfdmkjeocadaaDoor
