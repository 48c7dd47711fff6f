/- cavalcaderef07.Unpack: what the call does. -/
import Derived.Test.YtbelofikknfoaaaCUnwinS
import Derived.Test.YtbelofikknfoaaaCUnpack6
import Derived.Test.YtbelofikknfoaaaCBest
namespace Go.Proofs.Ytbelofikknfoaaa
open Go.RowKit
set_option maxHeartbeats 4000000
set_option maxRecDepth 4000
/-- what is told of what is known behind -/
def unWR (r : Except Int (List UInt8)) : Value := unV (match r with | .ok K => .ok (K.drop 68) | .error e => .error e)
/-- what window.Unpack tells -/
def unW (s : ByteArray) (most : Int) : Value :=
  if most < 0 then .tuple #[.string ByteArray.empty, .int .i64 2]
  else unWR (uwin s.data.toList statL most.toNat)
theorem rwunpack7_neg (s : ByteArray) (most : Int) (w : World) (h0 : most < 0) :
    Calls Try.prog 24 #[.string s, .int .i64 most] w fun e w' => e = .returned (unW s most) ∧ Below w.heap.size w w' := by
  have hd : decide (most < 0) = true := decide_eq_true h0
  rw [unW, if_pos h0]
  clear h0
  go_enter Try.func24, Try.ntmps24
  go_wp2_with fail
  go_ret2
  exact ⟨rfl, Below.refl _ _⟩
theorem wunpack_neg (s : ByteArray) (most : Int) (w : World) (h0 : most < 0) :
    Calls Try.prog 32 #[.string s, .int .i64 most] w fun e w' => e = .returned (unW s most) ∧ Below w.heap.size w w' := by
  have hd : decide (most < 0) = true := decide_eq_true h0
  rw [unW, if_pos h0]
  clear h0
  go_enter Try.func32, Try.ntmps32
  go_wp2_with fail
  go_ret2
  exact ⟨rfl, Below.refl _ _⟩
end Go.Proofs.Ytbelofikknfoaaa
