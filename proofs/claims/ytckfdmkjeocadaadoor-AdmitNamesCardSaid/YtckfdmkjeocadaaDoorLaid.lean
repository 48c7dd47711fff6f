/- The table as the program's text lays it, in a row's words; texts of a machine's size. -/
import Derived.Test.YtckfdmkjeocadaaDoorOpen
import Derived.Test.YtckfdmkjeocadaaDoorCards
import Derived.Test.YtckfdmkjeocadaaDoorTie
import Derived.ChangeSame
import Derived.ChangeVars
import Derived.JoinedOf
import Derived.RowKit
import Derived.LaidLaws
import Derived.SizedLaws
import Derived.ChangeMaps5
namespace Go.Proofs.YtckfdmkjeocadaaDoor
open Go.ChangeShapes Go.WideShapes Go.ChangeAt Go.RowKit
abbrev rlaid {H : Type} : List (String × DataW H) := [("cavalcade/digest.rounds", Rows.laid_cavalcade_digest_rounds)]
theorem r_own : ownKnob Tryd.prog.godebug = none := by kernel_rfl
theorem r_laidOut : laidOutB Tryd.prog = true := by kernel_rfl
def roundCells : Array Value := (rkL.map fun n => Value.int .u32 n).toArray
noncomputable def laidWorld (os : Os) : World :=
  { World.holding Tryd.prog os ⟨#[], #[], []⟩ with heap := (World.holding Tryd.prog os ⟨#[], #[], []⟩).heap.modify 0 fun
      | .cells _ t frozen => .cells roundCells t frozen
      | o => o }
theorem laidWorld_row (os : Os) (args : Array Value) : ((laidWorld os).forCall (fun _ _ => 0) ⟨#[], args, []⟩).memory.heap[0]? = some (.cells roundCells 139 (0, 0)) := by kernel_rfl
theorem laidWorld_met (os : Os) (args : Array Value) : laidMetH Tryd.prog rlaid ((laidWorld os).forCall (fun _ _ => 0) ⟨#[], args, []⟩).memory :=
  laidMetH_of_parts (laidMet_of_run' 8 (by kernel_rfl) (by kernel_rfl)) (by kernel_rfl)
theorem roundsH {W : World} (h : laidMetH Tryd.prog rlaid W) : RoundsAt W := rounds_of_laid (show laidMet Tryd.prog rlaid W from h)
theorem tx_weights {H : Type} {dd : List (DataW H)} {l : List UInt8} (h4 : dd[4]? = some (.lit (.string l))) : l.length ∈ (DataW.agg dd).weights Tryd.prog 25 := by
  rw [DataW.weights, Tryd.underlying25]
  exact DataW.weights_mem_each (j := 4) (t := 9) rfl h4 _ (by rw [DataW.weights]; exact List.mem_singleton.2 rfl)
theorem tx_sized {H : Type} {ts : List TypeId} {ds dd : List (DataW H)} {s : ByteArray} (hsz : ∀ n ∈ DataW.weightsEach Tryd.prog ts ds, decide (n ≤ reachBytes) = true) {j : Nat} (ht : ts[j]? = some 25) (hd : ds[j]? = some (.agg dd))
    (h4 : dd[4]? = some (.lit (.string s.data.toList))) : s.size ≤ 140737488351232 := by
  have h := hsz _ (DataW.weights_mem_each ht hd _ (tx_weights h4))
  have h2 := of_decide_eq_true h
  rw [Array.length_toList] at h2
  exact h2
end Go.Proofs.YtckfdmkjeocadaaDoor
