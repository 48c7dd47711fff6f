/- slices.Sort of strings: the library's contract at this program's numbers. -/
import Derived.Test.YtopdhefhagckoaaDkSort
import Derived.Sort.KeysCollected
import Derived.Sort.OwnSorted
namespace Go.Proofs.Ytopdhefhagckoaa
open Go.RowKit Go.Maps Go.Sort
theorem sort_any (blk off cap : Nat) (ss : List (List UInt8)) (w : World) (hH : Holds encStr w blk off ss.toArray) (hblk : blk < w.heap.size) (hsz : ss.length < 4611686018427387904) :
    Calls Try.prog 38 #[.slice (some ⟨blk, off, none⟩) ss.length cap] w fun e w' =>
      e = .returned (.tuple #[]) ∧ ∃ n os, w' = grow (putRow encStr (Sort.ahead w n) blk off (ss.mergeSort fun x y => decide (x ≤ y)).toArray) os :=
  Any.slices_Sort_string l190 blk off cap ss w hH hblk hsz
end Go.Proofs.Ytopdhefhagckoaa
