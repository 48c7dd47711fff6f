/-
  DERIVED. GIVEN WITH THE SEED: THE CARDS: each row of YtbeooeihedhabaaDoorRows.lean that lists a variable, with what it lists TIED to the program's text (the seventh form; the later family's looks); each row that meets fmt, with fmt's text TOLD by the authors' own Lean function (tested against real Go, not proved from fmt's source: count such statements apart). THE CARD IS WHAT COUNTS. Prove the row's statement (the work); the ties are given (YtbeooeihedhabaaDoorTie.lean); close each card by the builder's one call (the guide's Derived/Test/ToyasCard.lean, 'card_holds'). Laid BY PROGRAM, IN A SANDBOX (cutbox-door.mjs). By AI agents, Wed Nov 11 2026. No macro, syntax, notation, axiom, sorry.
-/
import Derived.Test.YtbeooeihedhabaaDoorRows
import GoSem.ClaimSeven
namespace Go.Proofs.YtbeooeihedhabaaDoor
namespace Rows

/-- THE TIED CARD OF 'cavalcadelaw13.BoxWrites'. -/
def boxWritesCard : Claim7 := { stood := { row := boxWritesRow, standIns := [], harness := (true, "a630cb81813bce6fdc2c02e1f1d11ae64c88c5e42d75b5e6352f08bf4be0784b"), looks := false }, kinds := [], alts := [], laidByText := true, laidKinds := [.data], laidTests := true, laidLooks := .later }
def BoxWritesCardSaid : Prop := Claim7.holds Tryd.pinned (.plain (OpenSpec.ofChange boxWritesSpec)) boxWritesCard

/-- THE TIED CARD OF 'cavalcadelaw13.BoxReads'. -/
def boxReadsCard : Claim7 := { stood := { row := boxReadsRow, standIns := [], harness := (true, "a630cb81813bce6fdc2c02e1f1d11ae64c88c5e42d75b5e6352f08bf4be0784b"), looks := false }, kinds := [], alts := [], laidByText := true, laidKinds := [.data], laidTests := true, laidLooks := .later }
def BoxReadsCardSaid : Prop := Claim7.holds Tryd.pinned (.plain (OpenSpec.ofChange boxReadsSpec)) boxReadsCard

/-- THE TIED CARD OF 'cavalcadelaw13.BoxLands'. -/
def boxLandsCard : Claim7 := { stood := { row := boxLandsRow, standIns := [], harness := (true, "a630cb81813bce6fdc2c02e1f1d11ae64c88c5e42d75b5e6352f08bf4be0784b"), looks := false }, kinds := [], alts := [], laidByText := true, laidKinds := [.data], laidTests := true, laidLooks := .later }
def BoxLandsCardSaid : Prop := Claim7.holds Tryd.pinned (.plain (OpenSpec.ofChange boxLandsSpec)) boxLandsCard

/-- THE TIED CARD OF 'cavalcadelaw13.BoxBack'. -/
def boxBackCard : Claim7 := { stood := { row := boxBackRow, standIns := [], harness := (true, "a630cb81813bce6fdc2c02e1f1d11ae64c88c5e42d75b5e6352f08bf4be0784b"), looks := false }, kinds := [], alts := [], laidByText := true, laidKinds := [.data], laidTests := true, laidLooks := .later }
def BoxBackCardSaid : Prop := Claim7.holds Tryd.pinned (.plain (OpenSpec.ofChange boxBackSpec)) boxBackCard

/-- THE TIED CARD OF 'cavalcadelaw13.BoxOrders'. -/
def boxOrdersCard : Claim7 := { stood := { row := boxOrdersRow, standIns := [], harness := (true, "a630cb81813bce6fdc2c02e1f1d11ae64c88c5e42d75b5e6352f08bf4be0784b"), looks := false }, kinds := [], alts := [], laidByText := true, laidKinds := [.data], laidTests := true, laidLooks := .later }
def BoxOrdersCardSaid : Prop := Claim7.holds Tryd.pinned (.plain (OpenSpec.ofChange boxOrdersSpec)) boxOrdersCard

/-- THE TIED CARD OF 'cavalcadelaw13.BoxForged'. -/
def boxForgedCard : Claim7 := { stood := { row := boxForgedRow, standIns := [], harness := (true, "a630cb81813bce6fdc2c02e1f1d11ae64c88c5e42d75b5e6352f08bf4be0784b"), looks := false }, kinds := [], alts := [], laidByText := true, laidKinds := [.data], laidTests := true, laidLooks := .later }
def BoxForgedCardSaid : Prop := Claim7.holds Tryd.pinned (.plain (OpenSpec.ofChange boxForgedSpec)) boxForgedCard

/-- THE SECOND FORM's CARD OF 'cavalcadelaw13.BoxWrites'. -/
def boxWritesUptoCard : Claim7 := { stood := { row := boxWritesUptoRow, standIns := [], harness := (true, "a630cb81813bce6fdc2c02e1f1d11ae64c88c5e42d75b5e6352f08bf4be0784b"), looks := false }, kinds := [], alts := [], laidByText := true, laidKinds := [.data], laidTests := true, laidLooks := .later }
def BoxWritesUptoCardSaid : Prop := Claim7.holds Tryd.pinned (.plain (OpenSpec.upto boxWritesSpec)) boxWritesUptoCard

/-- THE SECOND FORM's CARD OF 'cavalcadelaw13.BoxReads'. -/
def boxReadsUptoCard : Claim7 := { stood := { row := boxReadsUptoRow, standIns := [], harness := (true, "a630cb81813bce6fdc2c02e1f1d11ae64c88c5e42d75b5e6352f08bf4be0784b"), looks := false }, kinds := [], alts := [], laidByText := true, laidKinds := [.data], laidTests := true, laidLooks := .later }
def BoxReadsUptoCardSaid : Prop := Claim7.holds Tryd.pinned (.plain (OpenSpec.upto boxReadsSpec)) boxReadsUptoCard

/-- THE SECOND FORM's CARD OF 'cavalcadelaw13.BoxLands'. -/
def boxLandsUptoCard : Claim7 := { stood := { row := boxLandsUptoRow, standIns := [], harness := (true, "a630cb81813bce6fdc2c02e1f1d11ae64c88c5e42d75b5e6352f08bf4be0784b"), looks := false }, kinds := [], alts := [], laidByText := true, laidKinds := [.data], laidTests := true, laidLooks := .later }
def BoxLandsUptoCardSaid : Prop := Claim7.holds Tryd.pinned (.plain (OpenSpec.upto boxLandsSpec)) boxLandsUptoCard

/-- THE SECOND FORM's CARD OF 'cavalcadelaw13.BoxBack'. -/
def boxBackUptoCard : Claim7 := { stood := { row := boxBackUptoRow, standIns := [], harness := (true, "a630cb81813bce6fdc2c02e1f1d11ae64c88c5e42d75b5e6352f08bf4be0784b"), looks := false }, kinds := [], alts := [], laidByText := true, laidKinds := [.data], laidTests := true, laidLooks := .later }
def BoxBackUptoCardSaid : Prop := Claim7.holds Tryd.pinned (.plain (OpenSpec.upto boxBackSpec)) boxBackUptoCard

/-- THE SECOND FORM's CARD OF 'cavalcadelaw13.BoxOrders'. -/
def boxOrdersUptoCard : Claim7 := { stood := { row := boxOrdersUptoRow, standIns := [], harness := (true, "a630cb81813bce6fdc2c02e1f1d11ae64c88c5e42d75b5e6352f08bf4be0784b"), looks := false }, kinds := [], alts := [], laidByText := true, laidKinds := [.data], laidTests := true, laidLooks := .later }
def BoxOrdersUptoCardSaid : Prop := Claim7.holds Tryd.pinned (.plain (OpenSpec.upto boxOrdersSpec)) boxOrdersUptoCard

/-- THE SECOND FORM's CARD OF 'cavalcadelaw13.BoxForged'. -/
def boxForgedUptoCard : Claim7 := { stood := { row := boxForgedUptoRow, standIns := [], harness := (true, "a630cb81813bce6fdc2c02e1f1d11ae64c88c5e42d75b5e6352f08bf4be0784b"), looks := false }, kinds := [], alts := [], laidByText := true, laidKinds := [.data], laidTests := true, laidLooks := .later }
def BoxForgedUptoCardSaid : Prop := Claim7.holds Tryd.pinned (.plain (OpenSpec.upto boxForgedSpec)) boxForgedUptoCard
end Rows
end Go.Proofs.YtbeooeihedhabaaDoor
