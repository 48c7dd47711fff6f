/-
  No cell of these rows narrows 'for every input' (looked for: loops, veiled, ifaces, maps, wideKeys, modest, calm, conditions, laid).
  DERIVED. THE GIVEN ROWS OF THIS SEAT. 5 by the template 'for every input the law returns true; each argument reads behind the call as it read before'; 0 by the template 'total and deterministic' (their statements: YtbelofikknfoaaaTotals.lean).
  GIVEN WITH THE SEED: the statements are not yours to turn. If you find one false, say at which input.
  Laid BY PROGRAM, IN A SANDBOX (cutbox-rows.mjs): the forced cells as the released guide's own fill.sh prints them over the translation ff5dea4257b8ba16… (all of the seat's roots in one cut). By AI agents, Wed Nov 11 2026. No macro, syntax, notation, axiom, sorry.
-/
import Derived.Test.YtbelofikknfoaaaChecked
import GoSem.Claim
import GoSem.ClaimJoined
import GoSem.ClaimMapViews
import Derived.JoinedTies
import Derived.KernelRfl
namespace Go.Proofs.Ytbelofikknfoaaa
/- THE CELL 'sum', in the pinned program and in every row, IS THE sha256 OF THE DUMP (.gsa) THAT YtbelofikknfoaaaProg.lean LOADS. Nothing in Lean hashes anything: it is a label: what it is worth is what the hold of that sum in a sandbox is worth. -/
noncomputable def Try.pinned : Pinned := { name := "ytbelofikknfoaaa", sum := "ff5dea4257b8ba1693453a17e0de6d1383324f8df31a72df0bf9034d7c706cb6", checked := Try.checked }
namespace Rows
def none {H : Type} : Left H := { results := [], args := [] }

/-- 'cavalcadelaw08.CratePacks': WHATEVER THE INPUT: true; the input reads as it did. -/
def cratePacksSpec : ChangeSpec := { name := "cratePacks", fn := fun _ => fun
  | [d] => { results := [.lit (.bool true)], args := [d] }
  | _ => none }
def cratePacksRow : OpenClaim := { program := "ytbelofikknfoaaa", sum := "ff5dea4257b8ba1693453a17e0de6d1383324f8df31a72df0bf9034d7c706cb6", func := "cavalcade/cavalcadelaw08.CratePacks", spec := "cratePacks", unfollowed := true, recurses := true, apart := false }
def CratePacksSaid : Prop := cratePacksRow.holds Try.pinned (OpenSpec.ofChange cratePacksSpec)

/-- ITS FALSE NEIGHBOUR: 'it returns false'. Refute it at one input. -/
def cratePacksWrong : ChangeSpec := { name := "cratePacks", fn := fun _ => fun
  | [d] => { results := [.lit (.bool false)], args := [d] }
  | _ => none }
def CratePacksWrongFalsely : Prop := cratePacksRow.holds Try.pinned (OpenSpec.ofChange cratePacksWrong)

/-- 'cavalcadelaw08.CrateOpens': WHATEVER THE INPUT: true; the input reads as it did. -/
def crateOpensSpec : ChangeSpec := { name := "crateOpens", fn := fun _ => fun
  | [d1, d2] => { results := [.lit (.bool true)], args := [d1, d2] }
  | _ => none }
def crateOpensRow : OpenClaim := { program := "ytbelofikknfoaaa", sum := "ff5dea4257b8ba1693453a17e0de6d1383324f8df31a72df0bf9034d7c706cb6", func := "cavalcade/cavalcadelaw08.CrateOpens", spec := "crateOpens", unfollowed := true, recurses := true, apart := false }
def CrateOpensSaid : Prop := crateOpensRow.holds Try.pinned (OpenSpec.ofChange crateOpensSpec)

/-- ITS FALSE NEIGHBOUR: 'it returns false'. Refute it at one input. -/
def crateOpensWrong : ChangeSpec := { name := "crateOpens", fn := fun _ => fun
  | [d1, d2] => { results := [.lit (.bool false)], args := [d1, d2] }
  | _ => none }
def CrateOpensWrongFalsely : Prop := crateOpensRow.holds Try.pinned (OpenSpec.ofChange crateOpensWrong)

/-- 'cavalcadelaw08.CrateBack': WHATEVER THE INPUT: true; the input reads as it did. -/
def crateBackSpec : ChangeSpec := { name := "crateBack", fn := fun _ => fun
  | [d1, d2] => { results := [.lit (.bool true)], args := [d1, d2] }
  | _ => none }
def crateBackRow : OpenClaim := { program := "ytbelofikknfoaaa", sum := "ff5dea4257b8ba1693453a17e0de6d1383324f8df31a72df0bf9034d7c706cb6", func := "cavalcade/cavalcadelaw08.CrateBack", spec := "crateBack", unfollowed := true, recurses := true, apart := false }
def CrateBackSaid : Prop := crateBackRow.holds Try.pinned (OpenSpec.ofChange crateBackSpec)

/-- ITS FALSE NEIGHBOUR: 'it returns false'. Refute it at one input. -/
def crateBackWrong : ChangeSpec := { name := "crateBack", fn := fun _ => fun
  | [d1, d2] => { results := [.lit (.bool false)], args := [d1, d2] }
  | _ => none }
def CrateBackWrongFalsely : Prop := crateBackRow.holds Try.pinned (OpenSpec.ofChange crateBackWrong)

/-- 'cavalcadelaw08.CrateWays': WHATEVER THE INPUT: true; the input reads as it did. -/
def crateWaysSpec : ChangeSpec := { name := "crateWays", fn := fun _ => fun
  | [d1, d2] => { results := [.lit (.bool true)], args := [d1, d2] }
  | _ => none }
def crateWaysRow : OpenClaim := { program := "ytbelofikknfoaaa", sum := "ff5dea4257b8ba1693453a17e0de6d1383324f8df31a72df0bf9034d7c706cb6", func := "cavalcade/cavalcadelaw08.CrateWays", spec := "crateWays", unfollowed := true, recurses := true, apart := false }
def CrateWaysSaid : Prop := crateWaysRow.holds Try.pinned (OpenSpec.ofChange crateWaysSpec)

/-- ITS FALSE NEIGHBOUR: 'it returns false'. Refute it at one input. -/
def crateWaysWrong : ChangeSpec := { name := "crateWays", fn := fun _ => fun
  | [d1, d2] => { results := [.lit (.bool false)], args := [d1, d2] }
  | _ => none }
def CrateWaysWrongFalsely : Prop := crateWaysRow.holds Try.pinned (OpenSpec.ofChange crateWaysWrong)

/-- 'cavalcadelaw08.CrateSpoilt': WHATEVER THE INPUT: true; the input reads as it did. -/
def crateSpoiltSpec : ChangeSpec := { name := "crateSpoilt", fn := fun _ => fun
  | [d1, d2, d3] => { results := [.lit (.bool true)], args := [d1, d2, d3] }
  | _ => none }
def crateSpoiltRow : OpenClaim := { program := "ytbelofikknfoaaa", sum := "ff5dea4257b8ba1693453a17e0de6d1383324f8df31a72df0bf9034d7c706cb6", func := "cavalcade/cavalcadelaw08.CrateSpoilt", spec := "crateSpoilt", unfollowed := true, recurses := true, apart := false }
def CrateSpoiltSaid : Prop := crateSpoiltRow.holds Try.pinned (OpenSpec.ofChange crateSpoiltSpec)

/-- ITS FALSE NEIGHBOUR: 'it returns false'. Refute it at one input. -/
def crateSpoiltWrong : ChangeSpec := { name := "crateSpoilt", fn := fun _ => fun
  | [d1, d2, d3] => { results := [.lit (.bool false)], args := [d1, d2, d3] }
  | _ => none }
def CrateSpoiltWrongFalsely : Prop := crateSpoiltRow.holds Try.pinned (OpenSpec.ofChange crateSpoiltWrong)

/- THE SECOND FORM. 'bulk': how many values and letters a reading holds, each counted each time it is reached (what is shared counts as often as it is met; a slice's spare places count too). A statement '..UptoSaid' is the law's where the arguments, and the package variables that the reading takes, are together of bulk at most 1048576: NARROWER than '..Said'. Prove '..Said' where nothing that the law and all that it calls make is longer than what came in: it says more and counts as full. Else prove '..UptoSaid'. A law counts once. -/
mutual
def uptoBulk {H : Type} : DataW H → Nat
  | .lit (.string bytes) => bytes.length + 1
  | .lit _ => 1
  | .nil => 1
  | .ptr d => uptoBulk d + 1
  | .slice elems spare => uptoBulkAll elems + uptoBulkAll spare + 1
  | .agg parts => uptoBulkAll parts + 1
  | .iface _ d => uptoBulk d + 1
  | .map entries => uptoBulkEntries entries + 1
  | .held _ => 1
def uptoBulkAll {H : Type} : List (DataW H) → Nat
  | [] => 0
  | d :: r => uptoBulk d + uptoBulkAll r
def uptoBulkEntries {H : Type} : List (Lit × DataW H) → Nat
  | [] => 0
  | x :: r => uptoBulkEntry x + uptoBulkEntries r
def uptoBulkEntry {H : Type} : Lit × DataW H → Nat
  | (.string bytes, d) => bytes.length + uptoBulk d + 1
  | (_, d) => uptoBulk d + 1
 end
def uptoSmall : (H : Type) → List (DataW H) → Bool := fun _ ds => decide (uptoBulkAll ds ≤ 1048576)
def OpenSpec.upto (s : _root_.Go.ChangeSpec) : _root_.Go.OpenSpec := { _root_.Go.OpenSpec.ofChange s with cond := some uptoSmall }

/-- 'cavalcadelaw08.CratePacks', WHERE WHAT IT READS IS OF BULK AT MOST 1048576: true; the input reads as it did. -/
def cratePacksUptoRow : OpenClaim := { program := "ytbelofikknfoaaa", sum := "ff5dea4257b8ba1693453a17e0de6d1383324f8df31a72df0bf9034d7c706cb6", func := "cavalcade/cavalcadelaw08.CratePacks", spec := "cratePacks", unfollowed := true, recurses := true, apart := false, narrowed := true }
def CratePacksUptoSaid : Prop := cratePacksUptoRow.holds Try.pinned (OpenSpec.upto cratePacksSpec)

/-- 'cavalcadelaw08.CrateOpens', WHERE WHAT IT READS IS OF BULK AT MOST 1048576: true; the input reads as it did. -/
def crateOpensUptoRow : OpenClaim := { program := "ytbelofikknfoaaa", sum := "ff5dea4257b8ba1693453a17e0de6d1383324f8df31a72df0bf9034d7c706cb6", func := "cavalcade/cavalcadelaw08.CrateOpens", spec := "crateOpens", unfollowed := true, recurses := true, apart := false, narrowed := true }
def CrateOpensUptoSaid : Prop := crateOpensUptoRow.holds Try.pinned (OpenSpec.upto crateOpensSpec)

/-- 'cavalcadelaw08.CrateBack', WHERE WHAT IT READS IS OF BULK AT MOST 1048576: true; the input reads as it did. -/
def crateBackUptoRow : OpenClaim := { program := "ytbelofikknfoaaa", sum := "ff5dea4257b8ba1693453a17e0de6d1383324f8df31a72df0bf9034d7c706cb6", func := "cavalcade/cavalcadelaw08.CrateBack", spec := "crateBack", unfollowed := true, recurses := true, apart := false, narrowed := true }
def CrateBackUptoSaid : Prop := crateBackUptoRow.holds Try.pinned (OpenSpec.upto crateBackSpec)

/-- 'cavalcadelaw08.CrateWays', WHERE WHAT IT READS IS OF BULK AT MOST 1048576: true; the input reads as it did. -/
def crateWaysUptoRow : OpenClaim := { program := "ytbelofikknfoaaa", sum := "ff5dea4257b8ba1693453a17e0de6d1383324f8df31a72df0bf9034d7c706cb6", func := "cavalcade/cavalcadelaw08.CrateWays", spec := "crateWays", unfollowed := true, recurses := true, apart := false, narrowed := true }
def CrateWaysUptoSaid : Prop := crateWaysUptoRow.holds Try.pinned (OpenSpec.upto crateWaysSpec)

/-- 'cavalcadelaw08.CrateSpoilt', WHERE WHAT IT READS IS OF BULK AT MOST 1048576: true; the input reads as it did. -/
def crateSpoiltUptoRow : OpenClaim := { program := "ytbelofikknfoaaa", sum := "ff5dea4257b8ba1693453a17e0de6d1383324f8df31a72df0bf9034d7c706cb6", func := "cavalcade/cavalcadelaw08.CrateSpoilt", spec := "crateSpoilt", unfollowed := true, recurses := true, apart := false, narrowed := true }
def CrateSpoiltUptoSaid : Prop := crateSpoiltUptoRow.holds Try.pinned (OpenSpec.upto crateSpoiltSpec)

end Rows
end Go.Proofs.Ytbelofikknfoaaa
