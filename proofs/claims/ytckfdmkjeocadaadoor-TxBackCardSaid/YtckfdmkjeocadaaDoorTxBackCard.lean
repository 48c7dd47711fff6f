/- TxBack: for every transaction and every text the law returns true, and both arguments read afterwards as they read before; the variable digest.rounds starts as the program's text lays it. -/
import Derived.Test.YtckfdmkjeocadaaDoorTxRow
import Derived.SevenTiedAt
namespace Go.Proofs.YtckfdmkjeocadaaDoor
open Go
theorem txBack_card_holds : Rows.TxBackCardSaid :=
  Claim7.holds_tied_plain_at .later [] [.data] true (true, "ca4c07091c5a0c92ebeba88d55f7cd475bcd1a620e5071ec5ccc9de92746a036") false
    txBack_holds (fun _ h => by cases h) (by kernel_rfl) (fun _ h => by cases h) txBack_row_tie rfl ⟨rfl, rfl⟩ (by kernel_rfl) rfl
    (fun f fn hf hfn => by
      obtain rfl : f = 3 := Option.some.inj ((show Tryd.prog.funcNamed "cavalcade/cavalcadelaw04.TxBack" = some 3 by kernel_rfl).symm.trans hf) |>.symm
      obtain rfl : fn = Tryd.f3 := (Option.some.inj (Tryd.func3.symm.trans hfn)).symm
      exact ⟨by kernel_rfl, fun j t ht => by
        rw [Tryd.params3] at ht
        have h3 : t = 25 ∨ t = 9 := by
          rcases j with _ | _ | j
          · exact Or.inl (by simpa using ht.symm)
          · exact Or.inr (by simpa using ht.symm)
          · simp at ht
        rcases h3 with rfl | rfl
        · exact (show Tryd.prog.wantsStandIn 25 = false by kernel_rfl)
        · exact (show Tryd.prog.wantsStandIn 9 = false by kernel_rfl)⟩)
    (by kernel_rfl)
end Go.Proofs.YtckfdmkjeocadaaDoor
